/- What functions of the program give: each contract holds for all arguments that its own sentence names. -/
import Derived.Test.YtffiddkignmobaaDoorFnFnExactDescribeMatrix1
set_option linter.unusedVariables false
set_option linter.unusedSimpArgs false
section
open Go Go.Proofs.YtffiddkignmobaaDoorVe Go.Proofs.YtffiddkignmobaaDoorTv Go.Proofs
namespace Go.Proofs.YtffiddkignmobaaDoorTv
set_option maxRecDepth 8000
set_option maxHeartbeats 2000000
def perM (m : Mx) : Bool := isM m && (decide (m.2.1 = 0 ∧ m.2.2.1 = 0) || decide (-1 ≤ trM m ∧ trM m ≤ 1))
def ordN (m : Mx) : Nat := if m.2.1 = 0 ∧ m.2.2.1 = 0 then (if m.1 = 1 then 1 else 2) else if trM m = 0 then 4 else if trM m = 1 then 6 else 3
def ordV (m : Mx) : Int := if isM m = false then -1 else if perM m = true then ordN m else 0
def PwG (m : Mx) (n : Nat) (l : List Mx) : Prop := n = l.length ∧ ∀ j, j < n → l[j]? = some (pwM m j) ∧ isM (pwM m j) = true ∧ (pwM m j = (1, 0, 0, 1) ↔ j + 1 = n)
theorem isM_neg {a b c d : Int} (h : isM (a, b, c, d) = true) : isM (-a, -b, -c, -d) = true := by
  obtain ⟨⟨h1, h2, h3, h4⟩, h5⟩ := isM_iff.1 h
  exact isM_iff.2 ⟨⟨by omega, by omega, by omega, by omega⟩, by grind⟩
theorem isM_inv {a b c d : Int} (h : isM (a, b, c, d) = true) : isM (d, -b, -c, a) = true := by
  obtain ⟨⟨h1, h2, h3, h4⟩, h5⟩ := isM_iff.1 h
  exact isM_iff.2 ⟨⟨by omega, by omega, by omega, by omega⟩, by grind⟩
theorem isM_neginv {a b c d : Int} (h : isM (a, b, c, d) = true) : isM (-d, b, c, -a) = true := by
  have := isM_neg (isM_inv h)
  rwa [Int.neg_neg, Int.neg_neg] at this
theorem neg_mul {a b c d : Int} (n : Mx) : mulM (-a, -b, -c, -d) n = (-(mulM (a, b, c, d) n).1, -(mulM (a, b, c, d) n).2.1, -(mulM (a, b, c, d) n).2.2.1, -(mulM (a, b, c, d) n).2.2.2) := by
  unfold mulM
  simp only [Prod.mk.injEq]
  refine ⟨?_, ?_, ?_, ?_⟩ <;> grind
theorem pw_ok {m : Mx} (h : perM m = true) : 1 ≤ ordN m ∧ ordN m ≤ 6 ∧ ∀ j, j < ordN m → isM (pwM m j) = true ∧ (pwM m j = (1, 0, 0, 1) ↔ j + 1 = ordN m) := by
  obtain ⟨a, b, c, d⟩ := m
  unfold perM trM at h
  simp only [Bool.and_eq_true, Bool.or_eq_true, decide_eq_true_eq] at h
  obtain ⟨hm, hp⟩ := h
  obtain ⟨⟨ha, hb, hc, hd⟩, hdet⟩ := isM_iff.1 hm
  unfold ordN trM
  dsimp only
  by_cases hz : b = 0 ∧ c = 0
  · rw [if_pos hz]
    rcases (isId hdet).1 hz with ⟨rfl, rfl, rfl, rfl⟩ | ⟨rfl, rfl, rfl, rfl⟩
    · rw [if_pos rfl]
      refine ⟨by omega, by omega, fun j hj => ?_⟩
      obtain rfl : j = 0 := by omega
      exact ⟨hm, by simp [pwM]⟩
    · rw [if_neg (by omega)]
      refine ⟨by omega, by omega, fun j hj => ?_⟩
      rcases (show j = 0 ∨ j = 1 by omega) with rfl | rfl
      · exact ⟨hm, by simp [pwM]⟩
      · exact ⟨by decide +kernel, by decide +kernel⟩
  · rw [if_neg hz]
    have hp : -1 ≤ a + d ∧ a + d ≤ 1 := hp.resolve_left hz
    have hn : ¬ ((a, b, c, d) : Mx) = (1, 0, 0, 1) := fun e => hz (by simp only [Prod.mk.injEq] at e; exact ⟨e.2.1, e.2.2.1⟩)
    have hn2 : ∀ x y : Int, ¬ ((x, -b, -c, y) : Mx) = (1, 0, 0, 1) := fun x y e => hz (by simp only [Prod.mk.injEq] at e; omega)
    have hn3 : ∀ x y : Int, ¬ ((x, b, c, y) : Mx) = (1, 0, 0, 1) := fun x y e => hz (by simp only [Prod.mk.injEq] at e; omega)
    have hn4 : ¬ ((-1, 0, 0, -1) : Mx) = (1, 0, 0, 1) := by decide
    have h0 : isM (-1, 0, 0, -1) = true := by decide +kernel
    have h1 : isM (1, 0, 0, 1) = true := by decide +kernel
    have p0 : pwM (a, b, c, d) 0 = (a, b, c, d) := rfl
    rcases (show a + d = 0 ∨ a + d = 1 ∨ a + d = -1 by omega) with ht | ht | ht
    · rw [if_pos ht]
      have p1 : pwM (a, b, c, d) 1 = (-1, 0, 0, -1) := by
        show mulM (a, b, c, d) (a, b, c, d) = _
        rw [cayley hdet ht]; simp
      have p2 : pwM (a, b, c, d) 2 = (d, -b, -c, a) := by
        show mulM (pwM (a, b, c, d) 1) (a, b, c, d) = _
        rw [p1, mulN]
        simp only [Prod.mk.injEq, true_and, and_true]
        exact ⟨by omega, by omega⟩
      have p3 : pwM (a, b, c, d) 3 = (1, 0, 0, 1) := by
        show mulM (pwM (a, b, c, d) 2) (a, b, c, d) = _
        rw [p2, invl hdet]
      refine ⟨by omega, by omega, fun j hj => ?_⟩
      rcases (show j = 0 ∨ j = 1 ∨ j = 2 ∨ j = 3 by omega) with rfl | rfl | rfl | rfl
      · rw [p0]; exact ⟨hm, ⟨fun e => absurd e hn, fun e => by omega⟩⟩
      · rw [p1]; exact ⟨h0, ⟨fun e => absurd e hn4, fun e => by omega⟩⟩
      · rw [p2]; exact ⟨isM_inv hm, ⟨fun e => absurd e (hn2 _ _), fun e => by omega⟩⟩
      · rw [p3]; exact ⟨h1, ⟨fun _ => rfl, fun _ => rfl⟩⟩
    · rw [if_neg (by omega), if_pos ht]
      have p1 : pwM (a, b, c, d) 1 = (-d, b, c, -a) := by
        show mulM (a, b, c, d) (a, b, c, d) = _
        rw [cayley hdet ht]
        simp only [Prod.mk.injEq]
        exact ⟨by omega, by omega, by omega, by omega⟩
      have p2 : pwM (a, b, c, d) 2 = (-1, 0, 0, -1) := by
        show mulM (pwM (a, b, c, d) 1) (a, b, c, d) = _
        rw [p1, invl' hdet]
      have p3 : pwM (a, b, c, d) 3 = (-a, -b, -c, -d) := by
        show mulM (pwM (a, b, c, d) 2) (a, b, c, d) = _
        rw [p2, mulN]
      have p4 : pwM (a, b, c, d) 4 = (d, -b, -c, a) := by
        show mulM (pwM (a, b, c, d) 3) (a, b, c, d) = _
        rw [p3, neg_mul, cayley hdet ht]
        simp only [Prod.mk.injEq]
        exact ⟨by omega, by omega, by omega, by omega⟩
      have p5 : pwM (a, b, c, d) 5 = (1, 0, 0, 1) := by
        show mulM (pwM (a, b, c, d) 4) (a, b, c, d) = _
        rw [p4, invl hdet]
      refine ⟨by omega, by omega, fun j hj => ?_⟩
      rcases (show j = 0 ∨ j = 1 ∨ j = 2 ∨ j = 3 ∨ j = 4 ∨ j = 5 by omega) with rfl | rfl | rfl | rfl | rfl | rfl
      · rw [p0]; exact ⟨hm, ⟨fun e => absurd e hn, fun e => by omega⟩⟩
      · rw [p1]; exact ⟨isM_neginv hm, ⟨fun e => absurd e (hn3 _ _), fun e => by omega⟩⟩
      · rw [p2]; exact ⟨h0, ⟨fun e => absurd e hn4, fun e => by omega⟩⟩
      · rw [p3]; exact ⟨isM_neg hm, ⟨fun e => absurd e (hn2 _ _), fun e => by omega⟩⟩
      · rw [p4]; exact ⟨isM_inv hm, ⟨fun e => absurd e (hn2 _ _), fun e => by omega⟩⟩
      · rw [p5]; exact ⟨h1, ⟨fun _ => rfl, fun _ => rfl⟩⟩
    · rw [if_neg (by omega), if_neg (by omega)]
      have p1 : pwM (a, b, c, d) 1 = (d, -b, -c, a) := by
        show mulM (a, b, c, d) (a, b, c, d) = _
        rw [cayley hdet ht]
        simp only [Prod.mk.injEq]
        exact ⟨by omega, by omega, by omega, by omega⟩
      have p2 : pwM (a, b, c, d) 2 = (1, 0, 0, 1) := by
        show mulM (pwM (a, b, c, d) 1) (a, b, c, d) = _
        rw [p1, invl hdet]
      refine ⟨by omega, by omega, fun j hj => ?_⟩
      rcases (show j = 0 ∨ j = 1 ∨ j = 2 by omega) with rfl | rfl | rfl
      · rw [p0]; exact ⟨hm, ⟨fun e => absurd e hn, fun e => by omega⟩⟩
      · rw [p1]; exact ⟨isM_inv hm, ⟨fun e => absurd e (hn2 _ _), fun e => by omega⟩⟩
      · rw [p2]; exact ⟨h1, ⟨fun _ => rfl, fun _ => rfl⟩⟩
def kIP (k : ByteArray) : Bool := !(k.toList == kId.toList) && !(k.toList == kPe.toList)
def kTS (k : ByteArray) : Bool := (k.toList == kTw.toList) || (k.toList == kSt.toList)
theorem kin_per {m : Mx} (hm : isM m = true) : kIP (kinM m) = !perM m ∧ kTS (kinM m) = !perM m := by
  have e1 : kIP kId = false ∧ kTS kId = false := by decide +kernel
  have e2 : kIP kPe = false ∧ kTS kPe = false := by decide +kernel
  have e3 : kIP kTw = true ∧ kTS kTw = true := by decide +kernel
  have e4 : kIP kSt = true ∧ kTS kSt = true := by decide +kernel
  unfold kinM perM
  rw [hm, if_neg (by decide)]
  by_cases h1 : m.2.1 = 0 ∧ m.2.2.1 = 0
  · rw [if_pos h1, decide_eq_true h1]; exact e1
  · rw [if_neg h1, decide_eq_false h1]
    by_cases h2 : -1 ≤ trM m ∧ trM m ≤ 1
    · rw [if_pos h2, decide_eq_true h2]; exact e2
    · rw [if_neg h2, decide_eq_false h2]
      by_cases h3 : trM m = 2 ∨ trM m = -2
      · rw [if_pos h3]; exact e3
      · rw [if_neg h3]; exact e4
theorem OrderOfI (m : Mx) : ConS Tryd.prog 41 [mxV m] (.i (ordV m)) := by
  have w := IsMatrixI m
  have wk := KindOfI m
  unfold ordV
  cases hm : isM m with
  | false =>
    rw [hm] at w
    obtain ⟨a, b, c, d⟩ := m
    refine conS_of hmix hTab Tryd.func41 rfl rfl (by kernel_rfl) (by show 1 ≤ Tryd.f41.ntmps; decide) rfl ?_
    dsimp only [mxV] at w ⊢
    refine stp ?_; try with_reducible exact True.intro
    refine useT w.toT ?_ ⟨⟨rfl, rfl, rfl, rfl, trivial⟩, trivial⟩
    refine stp ?_; try with_reducible exact True.intro
    rfl
  | true =>
    rw [hm] at w
    have hk := (kin_per hm).1
    unfold kIP at hk
    generalize kinM m = k at *
    rw [if_neg (by decide)]
    cases hp : perM m with
    | false =>
      rw [hp] at hk
      simp only [Bool.not_false, Bool.and_eq_true] at hk
      obtain ⟨k1, k2⟩ := hk
      obtain ⟨a, b, c, d⟩ := m
      refine conS_of hmix hTab Tryd.func41 rfl rfl (by kernel_rfl) (by show 1 ≤ Tryd.f41.ntmps; decide) rfl ?_
      dsimp only [mxV] at w wk ⊢
      refine stp ?_; try with_reducible exact True.intro
      refine useT w.toT ?_ ⟨⟨rfl, rfl, rfl, rfl, trivial⟩, trivial⟩
      refine stp ?_; try with_reducible exact True.intro
      refine useT wk.toT ?_ ⟨⟨rfl, rfl, rfl, rfl, trivial⟩, trivial⟩
      refine brT k1 ?_
      refine stp ?_; try with_reducible exact True.intro
      refine brT k2 ?_
      refine stp ?_; try with_reducible exact True.intro
      rfl
    | true =>
      rw [hp] at hk
      obtain ⟨n1, n6, hpw⟩ := pw_ok hp
      rw [if_pos rfl]
      have kf : ∃ q1 q2 : Bool, (!(k.toList == kId.toList)) = q1 ∧ (!(k.toList == kPe.toList)) = q2 ∧ (q1 && q2) = false := ⟨_, _, rfl, rfl, hk⟩
      obtain ⟨q1, q2, k1, k2, hq⟩ := kf
      generalize hN : ordN m = N at *
      refine conS_of hmix hTab Tryd.func41 rfl rfl (by kernel_rfl) (by show 1 ≤ Tryd.f41.ntmps; decide) rfl ?_
      dsimp only [mxV] at w wk ⊢
      refine stp ?_; try with_reducible exact True.intro
      refine useT w.toT ?_ ⟨⟨rfl, rfl, rfl, rfl, trivial⟩, trivial⟩
      refine stp ?_; try with_reducible exact True.intro
      refine useT wk.toT ?_ ⟨⟨rfl, rfl, rfl, rfl, trivial⟩, trivial⟩
      cases q1 with
      | false =>
        refine brF k1 ?_
        refine stp ?_; try with_reducible exact True.intro
        refine ⟨Nat, fun j => j < N, fun j => 12 - j, fun j => [(1, .pcell 0 0), (4, .pcell 1 0), (5, .i ((j + 1 : Nat) : Int))], fun j => [.vars [.i m.1, .i m.2.1, .i m.2.2.1, .i m.2.2.2], .vars [.i (pwM m j).1, .i (pwM m j).2.1, .i (pwM m j).2.2.1, .i (pwM m j).2.2.2]], ⟨0, (fitK [] [0, 1]), n1⟩, fun j hj => ?_⟩
        dsimp only at hj ⊢
        obtain ⟨g1, g2⟩ := hpw j hj
        refine stp ?_; try with_reducible exact True.intro
        refine Br.mk (fun h1 => ?_) (fun h1 => ?_) <;> simp [-Int.ofNat_toNat] at h1
        · refine stp ?_; try with_reducible exact True.intro
          refine .inl ⟨_, _, oneI, by repeat (first | exact trivial | refine ⟨by first | exact rfl | exact trivial | exact ⟨_, rfl, rfl⟩ | exact ⟨_, _, rfl, by first | (simp; done) | (simp; omega), by first | (simp; done) | (simp [List.take_of_length_le]; done) | (rw [List.drop_zero]; exact List.take_of_length_le (by first | omega | (simp; omega))) | (simp [List.take_of_length_le]; omega)⟩ | exact ⟨_, rfl, by first | (simp; done) | (simp; omega), by first | (simp; done) | (simp [List.take_of_length_le]; done) | (rw [List.drop_zero]; exact List.take_of_length_le (by first | omega | (simp; omega))) | (simp [List.take_of_length_le]; omega)⟩, ?_⟩), ?_⟩; refine stp ?_; try with_reducible exact True.intro
          rw [mxE]
          have e : ((pwM m j).1 = 1 ∧ (pwM m j).2.1 = 0 ∧ (pwM m j).2.2.1 = 0 ∧ (pwM m j).2.2.2 = 1) ↔ j + 1 = N := by
            rw [← g2]
            constructor
            · rintro ⟨h1, h2, h3, h4⟩
              exact Prod.ext h1 (Prod.ext h2 (Prod.ext h3 h4))
            · intro h; rw [h]; exact ⟨rfl, rfl, rfl, rfl⟩
          by_cases h2 : j + 1 = N
          · refine brT (decide_eq_true (e.2 h2)) ?_
            refine stp ?_; try with_reducible exact True.intro
            subst h2
            rfl
          · refine brF (decide_eq_false (fun h => h2 (e.1 h))) ?_
            have w3 := TimesMatrix g1 hm (hpw (j + 1) (by omega)).1
            refine stp ?_; try with_reducible exact True.intro
            refine useT w3.toT ?_ ⟨⟨rfl, rfl, rfl, rfl, trivial⟩, ⟨rfl, rfl, rfl, rfl, trivial⟩, trivial⟩
            refine stp ?_; try with_reducible exact True.intro
            refine ⟨j + 1, (fitK [] [0, 1]), by omega, by first | ((try dsimp only); omega) | (simp; omega)⟩
        · omega
      | true =>
        cases q2 with
        | true => exact absurd hq (by decide)
        | false =>
          refine brT k1 ?_
          refine stp ?_; try with_reducible exact True.intro
          refine brF k2 ?_
          refine stp ?_; try with_reducible exact True.intro
          refine ⟨Nat, fun j => j < N, fun j => 12 - j, fun j => [(1, .pcell 0 0), (4, .pcell 1 0), (5, .i ((j + 1 : Nat) : Int))], fun j => [.vars [.i m.1, .i m.2.1, .i m.2.2.1, .i m.2.2.2], .vars [.i (pwM m j).1, .i (pwM m j).2.1, .i (pwM m j).2.2.1, .i (pwM m j).2.2.2]], ⟨0, (fitK [] [0, 1]), n1⟩, fun j hj => ?_⟩
          dsimp only at hj ⊢
          obtain ⟨g1, g2⟩ := hpw j hj
          refine stp ?_; try with_reducible exact True.intro
          refine Br.mk (fun h1 => ?_) (fun h1 => ?_) <;> simp [-Int.ofNat_toNat] at h1
          · refine stp ?_; try with_reducible exact True.intro
            refine .inl ⟨_, _, oneI, by repeat (first | exact trivial | refine ⟨by first | exact rfl | exact trivial | exact ⟨_, rfl, rfl⟩ | exact ⟨_, _, rfl, by first | (simp; done) | (simp; omega), by first | (simp; done) | (simp [List.take_of_length_le]; done) | (rw [List.drop_zero]; exact List.take_of_length_le (by first | omega | (simp; omega))) | (simp [List.take_of_length_le]; omega)⟩ | exact ⟨_, rfl, by first | (simp; done) | (simp; omega), by first | (simp; done) | (simp [List.take_of_length_le]; done) | (rw [List.drop_zero]; exact List.take_of_length_le (by first | omega | (simp; omega))) | (simp [List.take_of_length_le]; omega)⟩, ?_⟩), ?_⟩; refine stp ?_; try with_reducible exact True.intro
            rw [mxE]
            have e : ((pwM m j).1 = 1 ∧ (pwM m j).2.1 = 0 ∧ (pwM m j).2.2.1 = 0 ∧ (pwM m j).2.2.2 = 1) ↔ j + 1 = N := by
              rw [← g2]
              constructor
              · rintro ⟨h1, h2, h3, h4⟩
                exact Prod.ext h1 (Prod.ext h2 (Prod.ext h3 h4))
              · intro h; rw [h]; exact ⟨rfl, rfl, rfl, rfl⟩
            by_cases h2 : j + 1 = N
            · refine brT (decide_eq_true (e.2 h2)) ?_
              refine stp ?_; try with_reducible exact True.intro
              subst h2
              rfl
            · refine brF (decide_eq_false (fun h => h2 (e.1 h))) ?_
              have w3 := TimesMatrix g1 hm (hpw (j + 1) (by omega)).1
              refine stp ?_; try with_reducible exact True.intro
              refine useT w3.toT ?_ ⟨⟨rfl, rfl, rfl, rfl, trivial⟩, ⟨rfl, rfl, rfl, rfl, trivial⟩, trivial⟩
              refine stp ?_; try with_reducible exact True.intro
              refine ⟨j + 1, (fitK [] [0, 1]), by omega, by first | ((try dsimp only); omega) | (simp; omega)⟩
          · omega
theorem isM_B {m : Mx} (h : isM m = true) : MxB m := (isM_iff.1 (show isM (m.1, m.2.1, m.2.2.1, m.2.2.2) = true from h)).1
theorem OrderOfS (m : Mx) : ConS Tryd.prog 33 [mxV m] (.i (ordV m)) := by
  have w := IsMatrixS m
  have wk := KindOfS m
  unfold ordV
  cases hm : isM m with
  | false =>
    rw [hm] at w
    obtain ⟨a, b, c, d⟩ := m
    refine conS_of hmix hTab Tryd.func33 rfl rfl (by kernel_rfl) (by show 1 ≤ Tryd.f33.ntmps; decide) rfl ?_
    dsimp only [mxV] at w ⊢
    refine stp ?_; try with_reducible exact True.intro
    refine useT w.toT ?_ ⟨⟨rfl, rfl, rfl, rfl, trivial⟩, trivial⟩
    refine stp ?_; try with_reducible exact True.intro
    rfl
  | true =>
    rw [hm] at w
    have hk := (kin_per hm).2
    unfold kTS at hk
    generalize kinM m = k at *
    rw [if_neg (by decide)]
    have kf : ∃ q1 q2 : Bool, (k.toList == kTw.toList) = q1 ∧ (k.toList == kSt.toList) = q2 ∧ (q1 || q2) = !perM m := ⟨_, _, rfl, rfl, hk⟩
    obtain ⟨q1, q2, k1, k2, hq⟩ := kf
    cases hp : perM m with
    | false =>
      rw [hp] at hq
      obtain ⟨a, b, c, d⟩ := m
      refine conS_of hmix hTab Tryd.func33 rfl rfl (by kernel_rfl) (by show 1 ≤ Tryd.f33.ntmps; decide) rfl ?_
      dsimp only [mxV] at w wk ⊢
      refine stp ?_; try with_reducible exact True.intro
      refine useT w.toT ?_ ⟨⟨rfl, rfl, rfl, rfl, trivial⟩, trivial⟩
      refine stp ?_; try with_reducible exact True.intro
      refine useT wk.toT ?_ ⟨⟨rfl, rfl, rfl, rfl, trivial⟩, trivial⟩
      cases q1 with
      | true =>
        refine brT k1 ?_
        refine stp ?_; try with_reducible exact True.intro
        rfl
      | false =>
        cases q2 with
        | false => exact absurd hq (by decide)
        | true =>
          refine brF k1 ?_
          refine stp ?_; try with_reducible exact True.intro
          refine useT wk.toT ?_ ⟨⟨rfl, rfl, rfl, rfl, trivial⟩, trivial⟩
          refine brT k2 ?_
          refine stp ?_; try with_reducible exact True.intro
          rfl
    | true =>
      rw [hp] at hq
      obtain ⟨n1, n6, hpw⟩ := pw_ok hp
      rw [if_pos rfl]
      generalize hN : ordN m = N at *
      refine conS_of hmix hTab Tryd.func33 rfl rfl (by kernel_rfl) (by show 1 ≤ Tryd.f33.ntmps; decide) rfl ?_
      dsimp only [mxV] at w wk ⊢
      refine stp ?_; try with_reducible exact True.intro
      refine useT w.toT ?_ ⟨⟨rfl, rfl, rfl, rfl, trivial⟩, trivial⟩
      refine stp ?_; try with_reducible exact True.intro
      refine useT wk.toT ?_ ⟨⟨rfl, rfl, rfl, rfl, trivial⟩, trivial⟩
      cases q1 with
      | true => exact absurd hq (by simp)
      | false =>
        cases q2 with
        | true => exact absurd hq (by decide)
        | false =>
          refine brF k1 ?_
          refine stp ?_; try with_reducible exact True.intro
          refine useT wk.toT ?_ ⟨⟨rfl, rfl, rfl, rfl, trivial⟩, trivial⟩
          refine brF k2 ?_
          refine stp ?_; try with_reducible exact True.intro
          refine ⟨Nat, fun j => j < N, fun j => 12 - j, fun j => [(1, .pcell 0 0), (3, .pcell 1 0), (4, .i ((j + 1 : Nat) : Int))], fun j => [.vars [.i m.1, .i m.2.1, .i m.2.2.1, .i m.2.2.2], .vars [.i (pwM m j).1, .i (pwM m j).2.1, .i (pwM m j).2.2.1, .i (pwM m j).2.2.2]], ⟨0, (fitK [] [0, 1]), n1⟩, fun j hj => ?_⟩
          dsimp only at hj ⊢
          obtain ⟨g1, g2⟩ := hpw j hj
          have w3 := l13Times (isM_B g1) (isM_B hm)
          have e : ((pwM m j).1 = 1 ∧ (pwM m j).2.1 = 0 ∧ (pwM m j).2.2.1 = 0) ↔ j + 1 = N := by
            rw [← g2]
            constructor
            · rintro ⟨h1, h2, h3⟩
              have := (isM_iff.1 (show isM ((pwM m j).1, (pwM m j).2.1, (pwM m j).2.2.1, (pwM m j).2.2.2) = true from g1)).2
              rw [h1, h2] at this
              exact Prod.ext h1 (Prod.ext h2 (Prod.ext h3 (by show (pwM m j).2.2.2 = 1; omega)))
            · intro h; rw [h]; exact ⟨rfl, rfl, rfl⟩
          refine stp ?_; try with_reducible exact True.intro
          refine Br.mk (fun h1 => ?_) (fun h1 => ?_) <;> simp [-Int.ofNat_toNat] at h1
          · refine stp ?_; try with_reducible exact True.intro
            refine Br.mk (fun h2 => ?_) (fun h2 => ?_) <;> simp [-Int.ofNat_toNat] at h2
            · refine stp ?_; try with_reducible exact True.intro
              refine Br.mk (fun h3 => ?_) (fun h3 => ?_) <;> simp [-Int.ofNat_toNat] at h3
              · refine stp ?_; try with_reducible exact True.intro
                refine Br.mk (fun h4 => ?_) (fun h4 => ?_) <;> simp [-Int.ofNat_toNat] at h4
                · refine stp ?_; try with_reducible exact True.intro
                  obtain rfl := e.1 ⟨h2, h3, h4⟩
                  rfl
                · have h9 : j + 1 ≠ N := fun h => absurd (e.2 h) (by omega)
                  refine stp ?_; try with_reducible exact True.intro
                  refine useT w3.toT ?_ ⟨⟨rfl, rfl, rfl, rfl, trivial⟩, ⟨rfl, rfl, rfl, rfl, trivial⟩, trivial⟩
                  refine stp ?_; try with_reducible exact True.intro
                  refine ⟨j + 1, (fitK [] [0, 1]), by omega, by first | ((try dsimp only); omega) | (simp; omega)⟩
              · refine stp ?_; try with_reducible exact True.intro
                have h9 : j + 1 ≠ N := fun h => absurd (e.2 h) (by omega)
                refine stp ?_; try with_reducible exact True.intro
                refine useT w3.toT ?_ ⟨⟨rfl, rfl, rfl, rfl, trivial⟩, ⟨rfl, rfl, rfl, rfl, trivial⟩, trivial⟩
                refine stp ?_; try with_reducible exact True.intro
                refine ⟨j + 1, (fitK [] [0, 1]), by omega, by first | ((try dsimp only); omega) | (simp; omega)⟩
            · refine stp ?_; try with_reducible exact True.intro
              have h9 : j + 1 ≠ N := fun h => absurd (e.2 h) (by omega)
              refine stp ?_; try with_reducible exact True.intro
              refine useT w3.toT ?_ ⟨⟨rfl, rfl, rfl, rfl, trivial⟩, ⟨rfl, rfl, rfl, rfl, trivial⟩, trivial⟩
              refine stp ?_; try with_reducible exact True.intro
              refine ⟨j + 1, (fitK [] [0, 1]), by omega, by first | ((try dsimp only); omega) | (simp; omega)⟩
          · omega
end Go.Proofs.YtffiddkignmobaaDoorTv
end
section
open Go Go.Proofs.YtffiddkignmobaaDoorVe Go.Proofs.YtffiddkignmobaaDoorTv Go.Proofs
namespace Go.Proofs.YtffiddkignmobaaDoorTv
set_option maxRecDepth 8000
set_option maxHeartbeats 2000000
theorem joi_one (a s : ByteArray) : joi [a] s = a := by
  unfold joi
  apply ByteArray.ext
  simp [Lib.join]
theorem joi_cons (a b : ByteArray) (l : List ByteArray) (s : ByteArray) : joi (a :: b :: l) s = a ++ s ++ joi (b :: l) s := by
  unfold joi
  apply ByteArray.ext
  simp only [ByteArray.data_append, List.map_cons, Lib.join_cons]
  apply Array.toList_inj.1
  simp [Lib.joinTail]
theorem ba_lit (a b : List UInt8) : (⟨a.toArray⟩ : ByteArray) ++ (⟨b.toArray⟩ : ByteArray) = ⟨(a ++ b).toArray⟩ := by
  apply ByteArray.ext
  simp [ByteArray.data_append]
theorem kin_size (m : Mx) : (kinM m).size ≤ 8 := by
  unfold kinM
  repeat' split
  all_goals decide +kernel
def fixS (m : Mx) : Int × Int := if m.1 - (trM m).tdiv 2 = 0 ∧ m.2.2.1 = 0 then slo m.2.1 (m.2.2.2 - (trM m).tdiv 2) else slo (m.1 - (trM m).tdiv 2) m.2.2.1
theorem fxL_eq {m : Mx} (h : twM m = true) : fxL m = [slp (fixS m)] := by
  unfold fxL fixS
  rw [if_pos h]
  split <;> rfl
theorem fxL_no {m : Mx} (h : twM m = false) : fxL m = [] := by
  unfold fxL
  rw [h]; rfl
theorem stx_size (s : Int × Int) : (stx s).size ≤ 43 := by
  unfold stx
  split
  · rename_i h
    unfold isSlp at h
    have h := of_decide_eq_true h
    have k1 := ito_s s.1 (by omega)
    have k2 := ito_s s.2 (by omega)
    simp only [ByteArray.size_append, szA, List.size_toArray, List.length_cons, List.length_nil]
    omega
  · exact Nat.zero_le _
def fixM (m : Mx) : ByteArray := if twM m = true then stx (fixS m) else ⟨#[45]⟩
theorem fixM_size (m : Mx) : (fixM m).size ≤ 43 := by
  unfold fixM
  split
  · exact stx_size _
  · decide
theorem ordV_rng (m : Mx) : -1 ≤ ordV m ∧ ordV m ≤ 6 := by
  unfold ordV
  split
  · omega
  · split
    · rename_i h
      have := pw_ok h
      omega
    · omega
def dmT (a k o f : ByteArray) : ByteArray := ⟨#[116, 114, 97, 99, 101, 32]⟩ ++ a ++ ⟨#[32]⟩ ++ k ++ ⟨#[32, 111, 114, 100, 101, 114, 32]⟩ ++ o ++ ⟨#[32, 102, 105, 120, 101, 100, 32]⟩ ++ f
theorem dmT_joi (a k o f : ByteArray) : joi [⟨#[116, 114, 97, 99, 101]⟩, a, k, ⟨#[111, 114, 100, 101, 114]⟩, o, ⟨#[102, 105, 120, 101, 100]⟩, f] ⟨#[32]⟩ = dmT a k o f := by
  simp only [joi_cons, joi_one, dmT]
  apply ByteArray.ext
  apply Array.toList_inj.1
  simp [ByteArray.data_append]
def dmM (m : Mx) : ByteArray := if isM m = false then ⟨#[]⟩ else dmT (ito (trM m)) (kinM m) (ito (ordV m)) (fixM m)
theorem DescribeMatrixS (m : Mx) : ConS Tryd.prog 9 [mxV m] (.s (dmM m)) := by
  have w := IsMatrixS m
  have w2 := TraceOfS m
  have w3 := KindOfS m
  have w4 := OrderOfS m
  unfold dmM
  cases hm : isM m with
  | false =>
    rw [hm] at w
    obtain ⟨a, b, c, d⟩ := m
    refine conS_of hmix hTab Tryd.func9 rfl rfl (by kernel_rfl) (by show 1 ≤ Tryd.f9.ntmps; decide) rfl ?_
    dsimp only [mxV] at w ⊢
    refine stp ?_; try with_reducible exact True.intro
    refine useT w.toT ?_ ⟨⟨rfl, rfl, rfl, rfl, trivial⟩, trivial⟩
    refine stp ?_; try with_reducible exact True.intro
    rfl
  | true =>
    rw [hm] at w
    rw [hm, if_pos rfl] at w2
    rw [if_neg (by decide)]
    have z1 := kin_size m
    have z2 := ordV_rng m
    have z4 := (isM_B hm).a
    have z5 := (isM_B hm).d
    have z6 : -2000 ≤ trM m ∧ trM m ≤ 2000 := by unfold trM; omega
    have s1 := ito_s (trM m) (by omega)
    have s2 := ito_s (ordV m) (by omega)
    generalize kinM m = k at *
    generalize ordV m = o at *
    generalize trM m = t at *
    unfold fixM
    cases ht : twM m with
    | false =>
      have w1 := fxL_no ht ▸ FixedSlopesS m
      rw [if_neg (by decide)]
      obtain ⟨a, b, c, d⟩ := m
      refine conS_of hmix hTab Tryd.func9 rfl rfl (by kernel_rfl) (by show 1 ≤ Tryd.f9.ntmps; decide) rfl ?_
      dsimp only [mxV] at w w1 w2 w3 w4 ⊢
      refine stp ?_; try with_reducible exact True.intro
      refine useT w.toT ?_ ⟨⟨rfl, rfl, rfl, rfl, trivial⟩, trivial⟩
      refine stp ?_; try with_reducible exact True.intro
      refine useT w1 ?_ ⟨⟨rfl, rfl, rfl, rfl, trivial⟩, trivial⟩
      refine stp ?_; try with_reducible exact True.intro
      refine .inl ⟨_, _, w2, ⟨⟨rfl, rfl, rfl, rfl, trivial⟩, trivial⟩, ?_⟩; refine stp ?_; try with_reducible exact True.intro
      refine .inl ⟨_, _, FormatIntS t (by omega) (by omega), by repeat (first | exact trivial | refine ⟨by first | exact rfl | exact trivial | exact ⟨_, rfl, rfl⟩ | exact ⟨_, _, rfl, by first | (simp; done) | (simp; omega), by first | (simp; done) | (simp [List.take_of_length_le]; done) | (rw [List.drop_zero]; exact List.take_of_length_le (by first | omega | (simp; omega))) | (simp [List.take_of_length_le]; omega)⟩ | exact ⟨_, rfl, by first | (simp; done) | (simp; omega), by first | (simp; done) | (simp [List.take_of_length_le]; done) | (rw [List.drop_zero]; exact List.take_of_length_le (by first | omega | (simp; omega))) | (simp [List.take_of_length_le]; omega)⟩, ?_⟩), ?_⟩; refine stp ?_; try with_reducible exact True.intro
      refine ⟨by (try simp only [ByteArray.size_append, szA, List.size_toArray, List.length_cons, List.length_nil, Nat.zero_add, Nat.reduceAdd]); omega, ?_⟩; refine stp ?_; try with_reducible exact True.intro
      refine ⟨by (try simp only [ByteArray.size_append, szA, List.size_toArray, List.length_cons, List.length_nil, Nat.zero_add, Nat.reduceAdd]); omega, ?_⟩; refine stp ?_; try with_reducible exact True.intro
      refine .inl ⟨_, _, w3, ⟨⟨rfl, rfl, rfl, rfl, trivial⟩, trivial⟩, ?_⟩; refine stp ?_; try with_reducible exact True.intro
      refine ⟨by (try simp only [ByteArray.size_append, szA, List.size_toArray, List.length_cons, List.length_nil, Nat.zero_add, Nat.reduceAdd]); omega, ?_⟩; refine stp ?_; try with_reducible exact True.intro
      refine ⟨by (try simp only [ByteArray.size_append, szA, List.size_toArray, List.length_cons, List.length_nil, Nat.zero_add, Nat.reduceAdd]); omega, ?_⟩; refine stp ?_; try with_reducible exact True.intro
      refine .inl ⟨_, _, w4, ⟨⟨rfl, rfl, rfl, rfl, trivial⟩, trivial⟩, ?_⟩; refine stp ?_; try with_reducible exact True.intro
      refine .inl ⟨_, _, FormatIntS o (by omega) (by omega), by repeat (first | exact trivial | refine ⟨by first | exact rfl | exact trivial | exact ⟨_, rfl, rfl⟩ | exact ⟨_, _, rfl, by first | (simp; done) | (simp; omega), by first | (simp; done) | (simp [List.take_of_length_le]; done) | (rw [List.drop_zero]; exact List.take_of_length_le (by first | omega | (simp; omega))) | (simp [List.take_of_length_le]; omega)⟩ | exact ⟨_, rfl, by first | (simp; done) | (simp; omega), by first | (simp; done) | (simp [List.take_of_length_le]; done) | (rw [List.drop_zero]; exact List.take_of_length_le (by first | omega | (simp; omega))) | (simp [List.take_of_length_le]; omega)⟩, ?_⟩), ?_⟩; refine stp ?_; try with_reducible exact True.intro
      refine ⟨by (try simp only [ByteArray.size_append, szA, List.size_toArray, List.length_cons, List.length_nil, Nat.zero_add, Nat.reduceAdd]); omega, ?_⟩; refine stp ?_; try with_reducible exact True.intro
      refine ⟨by (try simp only [ByteArray.size_append, szA, List.size_toArray, List.length_cons, List.length_nil, Nat.zero_add, Nat.reduceAdd]); omega, ?_⟩; refine stp ?_; try with_reducible exact True.intro
      refine ⟨by (try simp only [ByteArray.size_append, szA, List.size_toArray, List.length_cons, List.length_nil, Nat.zero_add, Nat.reduceAdd]); omega, ?_⟩; refine stp ?_; try with_reducible exact True.intro
      rfl
    | true =>
      have w1 := FixedSlopesS m
      rw [fxL_eq ht] at w1
      rw [if_pos rfl]
      have z3 := stx_size (fixS m)
      have w5 := SlopeTextS (fixS m)
      generalize fixS m = x at *
      obtain ⟨a, b, c, d⟩ := m
      refine conS_of hmix hTab Tryd.func9 rfl rfl (by kernel_rfl) (by show 1 ≤ Tryd.f9.ntmps; decide) rfl ?_
      dsimp only [mxV, slp, slV] at w w1 w2 w3 w4 w5 ⊢
      refine stp ?_; try with_reducible exact True.intro
      refine useT w.toT ?_ ⟨⟨rfl, rfl, rfl, rfl, trivial⟩, trivial⟩
      refine stp ?_; try with_reducible exact True.intro
      refine useT w1 ?_ ⟨⟨rfl, rfl, rfl, rfl, trivial⟩, trivial⟩
      refine stp ?_; try with_reducible exact True.intro
      refine useT w5.toT ?_ ⟨⟨rfl, rfl, trivial⟩, trivial⟩
      refine stp ?_; try with_reducible exact True.intro
      refine .inl ⟨_, _, w2, ⟨⟨rfl, rfl, rfl, rfl, trivial⟩, trivial⟩, ?_⟩; refine stp ?_; try with_reducible exact True.intro
      refine .inl ⟨_, _, FormatIntS t (by omega) (by omega), by repeat (first | exact trivial | refine ⟨by first | exact rfl | exact trivial | exact ⟨_, rfl, rfl⟩ | exact ⟨_, _, rfl, by first | (simp; done) | (simp; omega), by first | (simp; done) | (simp [List.take_of_length_le]; done) | (rw [List.drop_zero]; exact List.take_of_length_le (by first | omega | (simp; omega))) | (simp [List.take_of_length_le]; omega)⟩ | exact ⟨_, rfl, by first | (simp; done) | (simp; omega), by first | (simp; done) | (simp [List.take_of_length_le]; done) | (rw [List.drop_zero]; exact List.take_of_length_le (by first | omega | (simp; omega))) | (simp [List.take_of_length_le]; omega)⟩, ?_⟩), ?_⟩; refine stp ?_; try with_reducible exact True.intro
      refine ⟨by (try simp only [ByteArray.size_append, szA, List.size_toArray, List.length_cons, List.length_nil, Nat.zero_add, Nat.reduceAdd]); omega, ?_⟩; refine stp ?_; try with_reducible exact True.intro
      refine ⟨by (try simp only [ByteArray.size_append, szA, List.size_toArray, List.length_cons, List.length_nil, Nat.zero_add, Nat.reduceAdd]); omega, ?_⟩; refine stp ?_; try with_reducible exact True.intro
      refine .inl ⟨_, _, w3, ⟨⟨rfl, rfl, rfl, rfl, trivial⟩, trivial⟩, ?_⟩; refine stp ?_; try with_reducible exact True.intro
      refine ⟨by (try simp only [ByteArray.size_append, szA, List.size_toArray, List.length_cons, List.length_nil, Nat.zero_add, Nat.reduceAdd]); omega, ?_⟩; refine stp ?_; try with_reducible exact True.intro
      refine ⟨by (try simp only [ByteArray.size_append, szA, List.size_toArray, List.length_cons, List.length_nil, Nat.zero_add, Nat.reduceAdd]); omega, ?_⟩; refine stp ?_; try with_reducible exact True.intro
      refine .inl ⟨_, _, w4, ⟨⟨rfl, rfl, rfl, rfl, trivial⟩, trivial⟩, ?_⟩; refine stp ?_; try with_reducible exact True.intro
      refine .inl ⟨_, _, FormatIntS o (by omega) (by omega), by repeat (first | exact trivial | refine ⟨by first | exact rfl | exact trivial | exact ⟨_, rfl, rfl⟩ | exact ⟨_, _, rfl, by first | (simp; done) | (simp; omega), by first | (simp; done) | (simp [List.take_of_length_le]; done) | (rw [List.drop_zero]; exact List.take_of_length_le (by first | omega | (simp; omega))) | (simp [List.take_of_length_le]; omega)⟩ | exact ⟨_, rfl, by first | (simp; done) | (simp; omega), by first | (simp; done) | (simp [List.take_of_length_le]; done) | (rw [List.drop_zero]; exact List.take_of_length_le (by first | omega | (simp; omega))) | (simp [List.take_of_length_le]; omega)⟩, ?_⟩), ?_⟩; refine stp ?_; try with_reducible exact True.intro
      refine ⟨by (try simp only [ByteArray.size_append, szA, List.size_toArray, List.length_cons, List.length_nil, Nat.zero_add, Nat.reduceAdd]); omega, ?_⟩; refine stp ?_; try with_reducible exact True.intro
      refine ⟨by (try simp only [ByteArray.size_append, szA, List.size_toArray, List.length_cons, List.length_nil, Nat.zero_add, Nat.reduceAdd]); omega, ?_⟩; refine stp ?_; try with_reducible exact True.intro
      refine ⟨by (try simp only [ByteArray.size_append, szA, List.size_toArray, List.length_cons, List.length_nil, Nat.zero_add, Nat.reduceAdd]); omega, ?_⟩; refine stp ?_; try with_reducible exact True.intro
      rfl
theorem DescribeMatrixI (m : Mx) : ConS Tryd.prog 11 [mxV m] (.s (dmM m)) := by
  have w := IsMatrixI m
  have w2 := TraceOfI m
  have w3 := KindOfI m
  have w4 := OrderOfI m
  unfold dmM
  cases hm : isM m with
  | false =>
    rw [hm] at w
    obtain ⟨a, b, c, d⟩ := m
    refine conS_of hmix hTab Tryd.func11 rfl rfl (by kernel_rfl) (by show 1 ≤ Tryd.f11.ntmps; decide) rfl ?_
    dsimp only [mxV] at w ⊢
    refine stp ?_; try with_reducible exact True.intro
    refine useT w.toT ?_ ⟨⟨rfl, rfl, rfl, rfl, trivial⟩, trivial⟩
    refine stp ?_; try with_reducible exact True.intro
    rfl
  | true =>
    rw [hm] at w
    rw [hm, if_pos rfl] at w2
    rw [if_neg (by decide)]
    have z1 := kin_size m
    have z2 := ordV_rng m
    have z4 := (isM_B hm).a
    have z5 := (isM_B hm).d
    have z6 : -2000 ≤ trM m ∧ trM m ≤ 2000 := by unfold trM; omega
    have s1 := ito_s (trM m) (by omega)
    have s2 := ito_s (ordV m) (by omega)
    generalize kinM m = k at *
    generalize ordV m = o at *
    generalize trM m = t at *
    unfold fixM
    cases ht : twM m with
    | false =>
      have w1 := FixedSlopesI0 ht
      rw [if_neg (by decide)]
      obtain ⟨a, b, c, d⟩ := m
      refine conS_of hmix hTab Tryd.func11 rfl rfl (by kernel_rfl) (by show 1 ≤ Tryd.f11.ntmps; decide) rfl ?_
      dsimp only [mxV] at w w1 w2 w3 w4 ⊢
      refine stp ?_; try with_reducible exact True.intro
      refine useT w.toT ?_ ⟨⟨rfl, rfl, rfl, rfl, trivial⟩, trivial⟩
      refine stp ?_; try with_reducible exact True.intro
      refine useT w1 ?_ ⟨⟨rfl, rfl, rfl, rfl, trivial⟩, trivial⟩
      refine stp ?_; try with_reducible exact True.intro
      refine .inl ⟨_, _, w2, ⟨⟨rfl, rfl, rfl, rfl, trivial⟩, trivial⟩, ?_⟩; refine stp ?_; try with_reducible exact True.intro
      refine .inl ⟨_, _, FormatIntI t (by omega) (by omega), by repeat (first | exact trivial | refine ⟨by first | exact rfl | exact trivial | exact ⟨_, rfl, rfl⟩ | exact ⟨_, _, rfl, by first | (simp; done) | (simp; omega), by first | (simp; done) | (simp [List.take_of_length_le]; done) | (rw [List.drop_zero]; exact List.take_of_length_le (by first | omega | (simp; omega))) | (simp [List.take_of_length_le]; omega)⟩ | exact ⟨_, rfl, by first | (simp; done) | (simp; omega), by first | (simp; done) | (simp [List.take_of_length_le]; done) | (rw [List.drop_zero]; exact List.take_of_length_le (by first | omega | (simp; omega))) | (simp [List.take_of_length_le]; omega)⟩, ?_⟩), ?_⟩; refine stp ?_; try with_reducible exact True.intro
      refine .inl ⟨_, _, w3, ⟨⟨rfl, rfl, rfl, rfl, trivial⟩, trivial⟩, ?_⟩; refine stp ?_; try with_reducible exact True.intro
      refine .inl ⟨_, _, w4, ⟨⟨rfl, rfl, rfl, rfl, trivial⟩, trivial⟩, ?_⟩; refine stp ?_; try with_reducible exact True.intro
      refine .inl ⟨_, _, FormatIntI o (by omega) (by omega), by repeat (first | exact trivial | refine ⟨by first | exact rfl | exact trivial | exact ⟨_, rfl, rfl⟩ | exact ⟨_, _, rfl, by first | (simp; done) | (simp; omega), by first | (simp; done) | (simp [List.take_of_length_le]; done) | (rw [List.drop_zero]; exact List.take_of_length_le (by first | omega | (simp; omega))) | (simp [List.take_of_length_le]; omega)⟩ | exact ⟨_, rfl, by first | (simp; done) | (simp; omega), by first | (simp; done) | (simp [List.take_of_length_le]; done) | (rw [List.drop_zero]; exact List.take_of_length_le (by first | omega | (simp; omega))) | (simp [List.take_of_length_le]; omega)⟩, ?_⟩), ?_⟩; refine stp ?_; try with_reducible exact True.intro
      refine useT ((JoinI [⟨#[116, 114, 97, 99, 101]⟩, ito t, k, ⟨#[111, 114, 100, 101, 114]⟩, ito o, ⟨#[102, 105, 120, 101, 100]⟩, ⟨#[45]⟩] ⟨#[32]⟩ (by rw [dmT_joi]; unfold dmT; simp only [ByteArray.size_append, szA, List.size_toArray, List.length_cons, List.length_nil]; omega)).toT) ?_; try with_reducible exact True.intro
      rw [dmT_joi]
    | true =>
      have w1 := FixedSlopesI1 ht
      rw [fxL_eq ht] at w1
      rw [if_pos rfl]
      have z3 := stx_size (fixS m)
      have w5 := SlopeTextI (fixS m)
      generalize fixS m = x at *
      obtain ⟨a, b, c, d⟩ := m
      refine conS_of hmix hTab Tryd.func11 rfl rfl (by kernel_rfl) (by show 1 ≤ Tryd.f11.ntmps; decide) rfl ?_
      dsimp only [mxV, slp, slV] at w w1 w2 w3 w4 w5 ⊢
      refine stp ?_; try with_reducible exact True.intro
      refine useT w.toT ?_ ⟨⟨rfl, rfl, rfl, rfl, trivial⟩, trivial⟩
      refine stp ?_; try with_reducible exact True.intro
      refine useT w1 ?_ ⟨⟨rfl, rfl, rfl, rfl, trivial⟩, trivial⟩
      refine stp ?_; try with_reducible exact True.intro
      refine useT w5.toT ?_ ⟨⟨rfl, rfl, trivial⟩, trivial⟩
      refine stp ?_; try with_reducible exact True.intro
      refine .inl ⟨_, _, w2, ⟨⟨rfl, rfl, rfl, rfl, trivial⟩, trivial⟩, ?_⟩; refine stp ?_; try with_reducible exact True.intro
      refine .inl ⟨_, _, FormatIntI t (by omega) (by omega), by repeat (first | exact trivial | refine ⟨by first | exact rfl | exact trivial | exact ⟨_, rfl, rfl⟩ | exact ⟨_, _, rfl, by first | (simp; done) | (simp; omega), by first | (simp; done) | (simp [List.take_of_length_le]; done) | (rw [List.drop_zero]; exact List.take_of_length_le (by first | omega | (simp; omega))) | (simp [List.take_of_length_le]; omega)⟩ | exact ⟨_, rfl, by first | (simp; done) | (simp; omega), by first | (simp; done) | (simp [List.take_of_length_le]; done) | (rw [List.drop_zero]; exact List.take_of_length_le (by first | omega | (simp; omega))) | (simp [List.take_of_length_le]; omega)⟩, ?_⟩), ?_⟩; refine stp ?_; try with_reducible exact True.intro
      refine .inl ⟨_, _, w3, ⟨⟨rfl, rfl, rfl, rfl, trivial⟩, trivial⟩, ?_⟩; refine stp ?_; try with_reducible exact True.intro
      refine .inl ⟨_, _, w4, ⟨⟨rfl, rfl, rfl, rfl, trivial⟩, trivial⟩, ?_⟩; refine stp ?_; try with_reducible exact True.intro
      refine .inl ⟨_, _, FormatIntI o (by omega) (by omega), by repeat (first | exact trivial | refine ⟨by first | exact rfl | exact trivial | exact ⟨_, rfl, rfl⟩ | exact ⟨_, _, rfl, by first | (simp; done) | (simp; omega), by first | (simp; done) | (simp [List.take_of_length_le]; done) | (rw [List.drop_zero]; exact List.take_of_length_le (by first | omega | (simp; omega))) | (simp [List.take_of_length_le]; omega)⟩ | exact ⟨_, rfl, by first | (simp; done) | (simp; omega), by first | (simp; done) | (simp [List.take_of_length_le]; done) | (rw [List.drop_zero]; exact List.take_of_length_le (by first | omega | (simp; omega))) | (simp [List.take_of_length_le]; omega)⟩, ?_⟩), ?_⟩; refine stp ?_; try with_reducible exact True.intro
      refine useT ((JoinI [⟨#[116, 114, 97, 99, 101]⟩, ito t, k, ⟨#[111, 114, 100, 101, 114]⟩, ito o, ⟨#[102, 105, 120, 101, 100]⟩, stx x] ⟨#[32]⟩ (by rw [dmT_joi]; unfold dmT; simp only [ByteArray.size_append, szA, List.size_toArray, List.length_cons, List.length_nil]; omega)).toT) ?_; try with_reducible exact True.intro
      rw [dmT_joi]
theorem toMatrix (m : Mx) : ConS Tryd.prog 10 [mxV m] (mxV m) := by
  obtain ⟨a, b, c, d⟩ := m
  refine conS_of hmix hTab Tryd.func10 rfl rfl (by kernel_rfl) (by show 1 ≤ Tryd.f10.ntmps; decide) rfl ?_
  dsimp only [mxV]
  refine stp ?_; try with_reducible exact True.intro
  rfl
theorem FnExactDescribeMatrix (m : Mx) : ConS Tryd.prog 3 [mxV m] (.b true) := by
  have w := toMatrix m
  have w1 := DescribeMatrixI m
  have w2 := DescribeMatrixS m
  generalize dmM m = t at *
  obtain ⟨a, b, c, d⟩ := m
  refine conS_of hmix hTab Tryd.func3 rfl rfl (by kernel_rfl) (by show 1 ≤ Tryd.f3.ntmps; decide) rfl ?_
  dsimp only [mxV] at *
  refine stp ?_; try with_reducible exact True.intro
  refine useT w.toT ?_ ⟨⟨rfl, rfl, rfl, rfl, trivial⟩, trivial⟩
  refine useT w2.toT ?_ ⟨⟨rfl, rfl, rfl, rfl, trivial⟩, trivial⟩
  refine useT w.toT ?_ ⟨⟨rfl, rfl, rfl, rfl, trivial⟩, trivial⟩
  refine useT w1.toT ?_ ⟨⟨rfl, rfl, rfl, rfl, trivial⟩, trivial⟩
  rw [show (!t.toList == t.toList) = false by simp]
  refine stp ?_; try with_reducible exact True.intro
end Go.Proofs.YtffiddkignmobaaDoorTv
end
