/- What functions of the program give: each contract holds for all arguments that its own sentence names. -/
import Derived.Test.YtaoepnmhflmhhaaFnFnExactMoveWord1
set_option linter.unusedVariables false
set_option linter.unusedSimpArgs false
section
open Go Go.Proofs.YtaoepnmhflmhhaaVe Go.Proofs.YtaoepnmhflmhhaaTv Go.Proofs
namespace Go.Proofs.YtaoepnmhflmhhaaTv
set_option maxRecDepth 8000
set_option maxHeartbeats 2000000
/-- What becomes of the letters 1 and 2. -/
def tblM (c : Int) : Option (List (Int × List Int)) := if c = 82 then some [(1, [1, 2]), (2, [2])] else if c = 76 then some [(1, [1]), (2, [1, 2])] else if c = 114 then some [(1, [1, -2]), (2, [2])] else if c = 108 then some [(1, [1]), (2, [-1, 2])] else none
def resM : Option (List (Int × List Int)) → V
  | some _ => .tup [.mp 0, .b true]
  | none => .tup [.undef, .b false]
def obM : Option (List (Int × List Int)) → List Obj
  | some l => [.mpt (.list (.int .i64)) l]
  | none => []
theorem images (c : Int) : ConT Try.prog 60 [.val (.int .u8) c] (resM (tblM c)) (obM (tblM c)) := by
  refine conT_of hmix hTab Try.func60 rfl rfl (by kernel_rfl) (by show 1 ≤ Try.f60.ntmps; decide) ?_
  unfold tblM
  refine stp ?_; try with_reducible exact True.intro
  by_cases h1 : c = 82
  · rw [if_pos h1]
    refine brT (decide_eq_true h1) ?_
    refine stp ?_; try with_reducible exact True.intro
    refine ⟨⟨.list (.int .i64), ?_⟩⟩
    refine stp ?_; try with_reducible exact True.intro
    exact (fitK [] [0])
  rw [if_neg h1]
  refine brF (decide_eq_false h1) ?_
  refine stp ?_; try with_reducible exact True.intro
  by_cases h2 : c = 76
  · rw [if_pos h2]
    refine brT (decide_eq_true h2) ?_
    refine stp ?_; try with_reducible exact True.intro
    refine ⟨⟨.list (.int .i64), ?_⟩⟩
    refine stp ?_; try with_reducible exact True.intro
    exact (fitK [] [0])
  rw [if_neg h2]
  refine brF (decide_eq_false h2) ?_
  refine stp ?_; try with_reducible exact True.intro
  by_cases h3 : c = 114
  · rw [if_pos h3]
    refine brT (decide_eq_true h3) ?_
    refine stp ?_; try with_reducible exact True.intro
    refine ⟨⟨.list (.int .i64), ?_⟩⟩
    refine stp ?_; try with_reducible exact True.intro
    exact (fitK [] [0])
  rw [if_neg h3]
  refine brF (decide_eq_false h3) ?_
  refine stp ?_; try with_reducible exact True.intro
  by_cases h4 : c = 108
  · rw [if_pos h4]
    refine brT (decide_eq_true h4) ?_
    refine stp ?_; try with_reducible exact True.intro
    refine ⟨⟨.list (.int .i64), ?_⟩⟩
    refine stp ?_; try with_reducible exact True.intro
    exact (fitK [] [0])
  rw [if_neg h4]
  refine brF (decide_eq_false h4) ?_
  refine stp ?_; try with_reducible exact True.intro
  exact (fitK [] [])
def imgM (c x : Int) : List Int := if c = 82 ∧ x = 1 then [1, 2] else if c = 76 ∧ x = 2 then [1, 2] else if c = 114 ∧ x = 1 then [1, -2] else if c = 108 ∧ x = 2 then [-1, 2] else [x]
theorem img_tbl {c x : Int} {t : List (Int × List Int)} (h : tblM c = some t) (hx : x = 1 ∨ x = 2) : getL (.list (.int .i64)) t x = imgM c x := by
  unfold tblM at h
  split at h
  · rename_i e; subst e; injection h with h; subst h
    rcases hx with rfl | rfl <;> decide
  split at h
  · rename_i e; subst e; injection h with h; subst h
    rcases hx with rfl | rfl <;> decide
  split at h
  · rename_i e; subst e; injection h with h; subst h
    rcases hx with rfl | rfl <;> decide
  split at h
  · rename_i e; subst e; injection h with h; subst h
    rcases hx with rfl | rfl <;> decide
  · cases h
theorem l20Image (c x : Int) : ConT Try.prog 56 [.val (.int .u8) c, .i x] (.own 0 0 (imgM c x).length) [.arr (.int .i64) (imgM c x) true] := by
  refine conT_of hmix hTab Try.func56 rfl rfl (by kernel_rfl) (by show 2 ≤ Try.f56.ntmps; decide) ?_
  unfold imgM
  refine stp ?_; try with_reducible exact True.intro
  by_cases h1 : c = 82
  · refine brT (decide_eq_true h1) ?_
    refine stp ?_; try with_reducible exact True.intro
    by_cases k1 : x = 1
    · rw [if_pos ⟨h1, k1⟩]
      refine brT (decide_eq_true k1) ?_
      refine stp ?_; try with_reducible exact True.intro
      exact (fitK [] [0])
    · refine brF (decide_eq_false k1) ?_
      subst h1
      simp only [k1, and_false, if_false, false_and, Int.reduceEq]
      refine stp ?_; try with_reducible exact True.intro
      exact (fitK [] [0])
  refine brF (decide_eq_false h1) ?_
  rw [if_neg (fun h => h1 h.1)]
  refine stp ?_; try with_reducible exact True.intro
  by_cases h2 : c = 76
  · refine brT (decide_eq_true h2) ?_
    refine stp ?_; try with_reducible exact True.intro
    by_cases k2 : x = 2
    · rw [if_pos ⟨h2, k2⟩]
      refine brT (decide_eq_true k2) ?_
      refine stp ?_; try with_reducible exact True.intro
      exact (fitK [] [0])
    · refine brF (decide_eq_false k2) ?_
      subst h2
      simp only [k2, and_false, if_false, false_and, Int.reduceEq]
      refine stp ?_; try with_reducible exact True.intro
      exact (fitK [] [0])
  refine brF (decide_eq_false h2) ?_
  rw [if_neg (fun h => h2 h.1)]
  refine stp ?_; try with_reducible exact True.intro
  by_cases h3 : c = 114
  · refine brT (decide_eq_true h3) ?_
    refine stp ?_; try with_reducible exact True.intro
    by_cases k3 : x = 1
    · rw [if_pos ⟨h3, k3⟩]
      refine brT (decide_eq_true k3) ?_
      refine stp ?_; try with_reducible exact True.intro
      exact (fitK [] [0])
    · refine brF (decide_eq_false k3) ?_
      subst h3
      simp only [k3, and_false, if_false, false_and, Int.reduceEq]
      refine stp ?_; try with_reducible exact True.intro
      exact (fitK [] [0])
  refine brF (decide_eq_false h3) ?_
  rw [if_neg (fun h => h3 h.1)]
  refine stp ?_; try with_reducible exact True.intro
  by_cases h4 : c = 108
  · refine brT (decide_eq_true h4) ?_
    refine stp ?_; try with_reducible exact True.intro
    by_cases k4 : x = 2
    · rw [if_pos ⟨h4, k4⟩]
      refine brT (decide_eq_true k4) ?_
      refine stp ?_; try with_reducible exact True.intro
      exact (fitK [] [0])
    · refine brF (decide_eq_false k4) ?_
      subst h4
      simp only [k4, and_false, if_false, false_and, Int.reduceEq]
      refine stp ?_; try with_reducible exact True.intro
      exact (fitK [] [0])
  refine brF (decide_eq_false h4) ?_
  rw [if_neg (fun h => h4 h.1)]
  refine stp ?_; try with_reducible exact True.intro
  exact (fitK [] [0])
def turM (c : Int) : List V := if c = 82 then [.i 1, .i 1, .i 0, .i 1] else if c = 76 then [.i 1, .i 0, .i 1, .i 1] else if c = 114 then [.i 1, .i (-1), .i 0, .i 1] else if c = 108 then [.i 1, .i 0, .i (-1), .i 1] else [.i 0, .i 0, .i 0, .i 0]
theorem l13Turn (c : Int) : ConT Try.prog 55 [.val (.int .u8) c] (.agg (turM c)) [] := by
  refine conT_of hmix hTab Try.func55 rfl rfl (by kernel_rfl) (by show 1 ≤ Try.f55.ntmps; decide) ?_
  unfold turM
  refine stp ?_; try with_reducible exact True.intro
  by_cases h1 : c = 82
  · rw [if_pos h1]
    refine brT (decide_eq_true h1) ?_
    refine stp ?_; try with_reducible exact True.intro
    exact (fitK [] [])
  rw [if_neg h1]
  refine brF (decide_eq_false h1) ?_
  refine stp ?_; try with_reducible exact True.intro
  by_cases h2 : c = 76
  · rw [if_pos h2]
    refine brT (decide_eq_true h2) ?_
    refine stp ?_; try with_reducible exact True.intro
    exact (fitK [] [])
  rw [if_neg h2]
  refine brF (decide_eq_false h2) ?_
  refine stp ?_; try with_reducible exact True.intro
  by_cases h3 : c = 114
  · rw [if_pos h3]
    refine brT (decide_eq_true h3) ?_
    refine stp ?_; try with_reducible exact True.intro
    exact (fitK [] [])
  rw [if_neg h3]
  refine brF (decide_eq_false h3) ?_
  refine stp ?_; try with_reducible exact True.intro
  by_cases h4 : c = 108
  · rw [if_pos h4]
    refine brT (decide_eq_true h4) ?_
    refine stp ?_; try with_reducible exact True.intro
    exact (fitK [] [])
  rw [if_neg h4]
  refine brF (decide_eq_false h4) ?_
  refine stp ?_; try with_reducible exact True.intro
  exact (fitK [] [])
end Go.Proofs.YtaoepnmhflmhhaaTv
end
section
open Go Go.Proofs.YtaoepnmhflmhhaaVe Go.Proofs.YtaoepnmhflmhhaaTv Go.Proofs
namespace Go.Proofs.YtaoepnmhflmhhaaTv
set_option maxRecDepth 8000
set_option maxHeartbeats 2000000
def Q2 (x : Int) : Prop := (-2 ≤ x ∧ x ≤ 2) ∧ x ≠ 0
def imL (c x : Int) : List Int := if 0 < x then imgM c x else invP (imgM c (-x)) 0
theorem imgM_q (c : Int) {x : Int} (hx : Q2 x) : (∀ y ∈ imgM c x, Q2 y) ∧ (imgM c x).length ≤ 2 := by
  unfold imgM
  repeat' split
  all_goals (refine ⟨fun y hy => ?_, by simp⟩; simp at hy)
  all_goals first
    | (rcases hy with rfl | rfl <;> exact ⟨by omega, by omega⟩)
    | (rw [hy]; exact hx)
theorem invP_mem {w : List Int} {y : Int} (h : y ∈ invP w 0) : -y ∈ w := by
  unfold invP at h
  simp at h
  obtain ⟨a, ha, rfl⟩ := h
  rw [Int.neg_neg]; exact ha
theorem imL_q (c : Int) {x : Int} (hx : Q2 x) : (∀ y ∈ imL c x, Q2 y) ∧ (imL c x).length ≤ 2 := by
  unfold imL
  split
  · exact imgM_q c hx
  · have hn : Q2 (-x) := by obtain ⟨h1, h2⟩ := hx; exact ⟨by omega, by omega⟩
    obtain ⟨h1, h2⟩ := imgM_q c hn
    refine ⟨fun y hy => ?_, by simpa [invP] using h2⟩
    obtain ⟨h3, h4⟩ := h1 _ (invP_mem hy)
    exact ⟨by omega, by omega⟩
def nxtM (c : Int) (p : List Int × Nat) (k : Nat) : List Int := ((p.1.take p.2).take k).flatMap (imL c)
theorem nxt_succ (c : Int) {p : List Int × Nat} {k : Nat} (h : k < p.2) (hl : p.2 ≤ p.1.length) : nxtM c p (k + 1) = nxtM c p k ++ imL c (rd p.1 k) := by
  unfold nxtM
  have e : (p.1.take p.2).take (k + 1) = (p.1.take p.2).take k ++ [rd p.1 k] := by
    rw [List.take_take, List.take_take, Nat.min_eq_left (by omega), Nat.min_eq_left (by omega), take_succA (by omega)]
  rw [e, List.flatMap_append]
  simp
theorem nxt_q (c : Int) {p : List Int × Nat} (hq : ∀ x ∈ p.1, Q2 x) : ∀ k, (∀ y ∈ nxtM c p k, Q2 y) := fun k y hy => by
  unfold nxtM at hy
  obtain ⟨x, hx, hy⟩ := List.mem_flatMap.1 hy
  exact (imL_q c (hq x (List.mem_of_mem_take (List.mem_of_mem_take hx)))).1 y hy
theorem nxt_len (c : Int) {p : List Int × Nat} (hq : ∀ x ∈ p.1, Q2 x) (hl : p.2 ≤ p.1.length) : ∀ k, k ≤ p.2 → (nxtM c p k).length ≤ 2 * k
  | 0, _ => by simp [nxtM]
  | k + 1, h => by
    rw [nxt_succ c (by omega) hl, List.length_append]
    have h1 := nxt_len c hq hl k (by omega)
    have h2 := (imL_q c (hq (rd p.1 k) (rd_memA (by omega)))).2
    omega
def stepM (c : Int) (p : List Int × Nat) : List Int × Nat := redP (nxtM c p p.2) (nxtM c p p.2).length
def mvP (s : ByteArray) (w : List Int) : Nat → Option (List Int × Nat)
  | 0 => some (redP w w.length)
  | j + 1 => match mvP s w j with
    | none => none
    | some p => match tblM (byteAt s ((s.size : Int) - 1 - j)) with
      | none => none
      | some _ => if 24 < (stepM (byteAt s ((s.size : Int) - 1 - j)) p).2 then none else some (stepM (byteAt s ((s.size : Int) - 1 - j)) p)
theorem mvP_none {s : ByteArray} {w : List Int} {i : Nat} (h : mvP s w i = none) : ∀ j, i ≤ j → mvP s w j = none
  | 0, hj => by
    obtain rfl : i = 0 := by omega
    exact h
  | j + 1, hj => by
    by_cases e : i = j + 1
    · rw [← e]; exact h
    · rw [mvP, mvP_none h j (by omega)]
theorem mvP_bad {s : ByteArray} {w : List Int} {i : Nat} (hi : i < s.size) (h : tblM (byteAt s i) = none) : mvP s w s.size = none := by
  refine mvP_none (i := s.size - 1 - i + 1) ?_ _ (by omega)
  rw [mvP]
  have e : ((s.size : Int) - 1 - ((s.size - 1 - i : Nat) : Int)) = (i : Int) := by omega
  rw [e, h]
  split <;> rfl
/-- What a state keeps to. -/
def Okp (p : List Int × Nat) : Prop := p.2 ≤ p.1.length ∧ p.1.length ≤ 48 ∧ p.2 ≤ 24 ∧ ∀ x ∈ p.1, Q2 x
theorem cv_q {w : List Int} (h : cvOk w = true) : w.length ≤ 24 ∧ ∀ x ∈ w, Q2 x := by
  unfold cvOk at h
  simp only [wordOk, Bool.and_eq_true, decide_eq_true_eq, List.all_eq_true, two, isLet] at h
  exact ⟨h.2.2, fun x hx => ⟨h.1 x hx, (h.2.1 x hx).1⟩⟩
theorem redP_ok {w : List Int} (hq : ∀ x ∈ w, Q2 x) (hl : w.length ≤ 48) (h24 : (redP w w.length).2 ≤ 24) : Okp (redP w w.length) := by
  obtain ⟨h1, h2⟩ := redP_le w w.length
  exact ⟨h1, by omega, h24, redP_mem hq _ (Nat.le_refl _)⟩
theorem mvP_ok {s : ByteArray} {w : List Int} (h : cvOk w = true) : ∀ j p, mvP s w j = some p → Okp p
  | 0, p, e => by
    injection e with e
    subst e
    obtain ⟨h1, h2⟩ := cv_q h
    have := redP_le w w.length
    exact redP_ok h2 (by omega) (by omega)
  | j + 1, p, e => by
    rw [mvP] at e
    split at e
    · cases e
    · rename_i p0 h0
      obtain ⟨a1, a2, a3, a4⟩ := mvP_ok h j p0 h0
      split at e
      · cases e
      · split at e
        · cases e
        · injection e with e
          subst e
          have h5 := nxt_len (byteAt s ((s.size : Int) - 1 - j)) a4 a1 p0.2 (Nat.le_refl _)
          exact redP_ok (nxt_q _ a4 _) (by omega) (by unfold stepM at *; omega)
def moveM (s : ByteArray) (w : List Int) : Option (List Int × Nat) := if cvOk w = true ∧ s.size ≤ 24 then mvP s w s.size else none
def resV : Option (List Int × Nat) → V
  | some p => .tup [.own 0 0 p.2, .b true]
  | none => .tup [.nil .unit, .b false]
def obV : Option (List Int × Nat) → List Obj
  | some p => [.arr (.int .i64) p.1 true]
  | none => []
theorem MoveWordI (s : ByteArray) (w : List Int) (hs : (s.size : Int) ≤ 274877906944) (hw : (w.length : Int) ≤ 274877906944) : ConT Try.prog 17 [.s s, .il w] (resV (moveM s w)) (obV (moveM s w)) := by
  refine conT_of hmix hTab Try.func17 rfl rfl (by kernel_rfl) (by show 2 ≤ Try.f17.ntmps; decide) ?_
  have wc := isCurve w hw
  unfold moveM
  refine stp ?_; try with_reducible exact True.intro
  refine useT (wc.toT) ?_; try with_reducible exact True.intro
  cases hcv : cvOk w with
  | false =>
    rw [if_neg (by simp)]
    refine stp ?_; try with_reducible exact True.intro
    exact (fitK [] [])
  | true =>
    by_cases h24 : s.size ≤ 24
    · rw [if_pos ⟨rfl, h24⟩]
      refine stp ?_; try with_reducible exact True.intro
      refine brF (decide_eq_false (by omega)) ?_
      refine stp ?_; try with_reducible exact True.intro
      have hok := mvP_ok (s := s) hcv
      have hbad := fun i => @mvP_bad s w i
      obtain ⟨hwl, hwq⟩ := cv_q hcv
      refine ⟨Nat, fun i => i ≤ s.size ∧ ∀ j, j < i → tblM (byteAt s j) ≠ none, fun i => s.size - i, fun i => [(0, .s s), (1, .il w), (25, .i s.size), (26, .i i)], fun i => [], ⟨0, (fitK [] []), by simp⟩, fun i ⟨hi, hv⟩ => ?_⟩
      dsimp only at hi hv ⊢
      refine stp ?_; try with_reducible exact True.intro
      refine Br.mk (fun h1 => ?_) (fun h1 => ?_) <;> simp [-Int.ofNat_toNat] at h1
      · have hb := byteAt_rng s i
        have wi := images (byteAt s i)
        refine stp ?_; try with_reducible exact True.intro
        cases hc : tblM (byteAt s i) with
        | none =>
          rw [hc] at wi
          simp only [resM, obM] at wi
          rw [hbad i h1 hc]
          refine useT (wi) ?_; try with_reducible exact True.intro
          exact (fitK [] [])
        | some t =>
          rw [hc] at wi
          simp only [resM, obM] at wi
          refine useT (wi) ?_; try with_reducible exact True.intro
          refine ⟨i + 1, (fitK [] []), ⟨by omega, fun j hj => ?_⟩, by first | ((try dsimp only); omega) | (simp; omega)⟩
          by_cases e : j = i
          · subst e; rw [hc]; simp
          · exact hv j (by omega)
      · have e : i = s.size := by omega
        subst e
        refine stp ?_; try with_reducible exact True.intro
        refine useT ((reduceI w (by omega) (fun x hx => (hwq x hx).1))) ?_; try with_reducible exact True.intro
        refine ⟨Nat × (List Int × Nat), fun a => a.1 ≤ s.size ∧ mvP s w a.1 = some a.2, fun a => s.size - a.1, fun a => [(0, .s s), (9, .own 0 0 a.2.2), (10, .i ((s.size : Int) - 1 - a.1))], fun a => [.arr (.int .i64) a.2.1 true], ⟨(0, redP w w.length), ⟨.frz [], [0], ⟨rfl, rfl, ?_, trivial⟩, ⟨rfl, trivial⟩, by decide, rfl, rfl, rfl⟩, Nat.zero_le _, rfl⟩, fun ⟨j, p⟩ ⟨hj, hp⟩ => ?_⟩
        · show V.i _ = V.i _
          congr 1
          dsimp only
          omega
        dsimp only at hj hp ⊢
        obtain ⟨o1, o2, o3, o4⟩ := hok j p hp
        have hsu : mvP s w (j + 1) = match tblM (byteAt s ((s.size : Int) - 1 - j)) with
          | none => none
          | some _ => if 24 < (stepM (byteAt s ((s.size : Int) - 1 - j)) p).2 then none else some (stepM (byteAt s ((s.size : Int) - 1 - j)) p) := by
          rw [mvP, hp]
        by_cases hjs : j < s.size
        · have hb := byteAt_rng s ((s.size : Int) - 1 - j)
          have wi := images (byteAt s ((s.size : Int) - 1 - j))
          have hne := hv (s.size - 1 - j) (by omega)
          rw [show ((s.size - 1 - j : Nat) : Int) = (s.size : Int) - 1 - j by omega] at hne
          generalize hcc : byteAt s ((s.size : Int) - 1 - j) = c at *
          cases hc : tblM c with
          | none => exact absurd hc hne
          | some t =>
            rw [hc] at wi hsu
            simp only [resM, obM] at wi hsu
            refine stp ?_; try with_reducible exact True.intro
            refine brT (decide_eq_true (by omega)) ?_
            refine stp ?_; try with_reducible exact True.intro
            rw [hcc]
            refine useT (wi) ?_; try with_reducible exact True.intro
            refine ⟨Nat, fun k => k ≤ p.2, fun k => p.2 - k, fun k => [(0, .s s), (9, .own 0 0 p.2), (10, .i ((s.size : Int) - 1 - j)), (11, .mp 1), (13, .own 2 0 (nxtM c p k).length), (56, .own 0 0 p.2), (57, .i p.2), (58, .i k)], fun k => [.arr (.int .i64) p.1 true, .mpt (.list (.int .i64)) t, .arr (.int .i64) (nxtM c p k) true], ⟨0, (fitK [] [0, 1, 2]), Nat.zero_le _⟩, fun k hk => ?_⟩
            dsimp only at hk ⊢
            have hnl := nxt_len c o4 o1 k hk
            have hnq := nxt_q c o4 k
            refine stp ?_; try with_reducible exact True.intro
            refine Br.mk (fun h5 => ?_) (fun h5 => ?_) <;> simp [-Int.ofNat_toNat] at h5
            · have hx := o4 _ (rd_memA (show k < p.1.length by omega))
              have hst := nxt_succ c h5 o1
              have hlen := (imL_q c hx).2
              have qx : @Eq Int (rdT (.int .i64) p.1 ((Int.toNat (k : Int) : Nat) : Int)) (rd p.1 k) := rfl
              obtain ⟨⟨x1, x2⟩, x3⟩ := hx
              by_cases hpos : 0 < rd p.1 k
              · have ht := img_tbl hc (x := rd p.1 k) (by omega)
                have hil : imL c (rd p.1 k) = imgM c (rd p.1 k) := if_pos hpos
                rw [hil, ← ht] at hst hlen
                refine stp ?_; try with_reducible exact True.intro
                refine brT (decide_eq_true hpos) ?_
                refine stp ?_; try with_reducible exact True.intro
                refine ⟨k + 1, ⟨.frz [], [0, 1, 3], ⟨rfl, rfl, rfl, rfl, ?_, rfl, rfl, rfl, trivial⟩, ⟨rfl, rfl, ?_, trivial⟩, by decide, rfl, rfl, rfl⟩, by first | ((try dsimp only); omega) | (simp; omega), by first | ((try dsimp only); omega) | (simp; omega)⟩
                · rw [hst]
                  show V.own 3 0 _ = V.own 3 0 _
                  congr 1
                  first | rfl | (simp; done) | (simp; rfl)
                · rw [hst]
                  refine congrArg (fun x => some (Obj.arr (.int .i64) x true)) ?_
                  simp [List.take_of_length_le]
                  try rfl
              · have ht := img_tbl hc (x := -(rd p.1 k)) (by omega)
                have hil : imL c (rd p.1 k) = invP (imgM c (-(rd p.1 k))) 0 := if_neg hpos
                rw [hil, ← ht] at hst hlen
                have hq2 := (imgM_q c (x := -(rd p.1 k)) ⟨by omega, by omega⟩)
                rw [← ht] at hq2
                refine stp ?_; try with_reducible exact True.intro
                refine brF (decide_eq_false hpos) ?_
                refine stp ?_; try with_reducible exact True.intro
                refine useT ((inverseI (getL (.list (.int .i64)) t (-(rd p.1 k))) (by omega) (fun y hy => by have := hq2.1 y hy; unfold Q2 at this; omega))) ?_; try with_reducible exact True.intro
                refine ⟨k + 1, ⟨.frz [], [0, 1, 4], ⟨rfl, rfl, rfl, rfl, ?_, rfl, rfl, rfl, trivial⟩, ⟨rfl, rfl, ?_, trivial⟩, by decide, rfl, rfl, rfl⟩, by first | ((try dsimp only); omega) | (simp; omega), by first | ((try dsimp only); omega) | (simp; omega)⟩
                · rw [hst]
                  show V.own 4 0 _ = V.own 4 0 _
                  congr 1
                  first | rfl | (simp; done) | (simp; rfl)
                · rw [hst]
                  refine congrArg (fun x => some (Obj.arr (.int .i64) x true)) ?_
                  simp [List.take_of_length_le]
                  try rfl
            · have e5 : k = p.2 := by omega
              subst e5
              refine stp ?_; try with_reducible exact True.intro
              refine useT ((reduceI (nxtM c p p.2) (by omega) (fun x hx => (nxt_q c o4 _ x hx).1))) ?_; try with_reducible exact True.intro
              by_cases hlong : 24 < (stepM c p).2
              · rw [if_pos hlong] at hsu
                rw [mvP_none hsu s.size (by omega)]
                refine brT (decide_eq_true (by unfold stepM at hlong; omega)) ?_
                refine stp ?_; try with_reducible exact True.intro
                exact (fitK [] [])
              · rw [if_neg hlong] at hsu
                refine brF (decide_eq_false (by unfold stepM at hlong; omega)) ?_
                refine stp ?_; try with_reducible exact True.intro
                refine ⟨(j + 1, stepM c p), ⟨.frz [], [3], ⟨rfl, rfl, ?_, trivial⟩, ⟨rfl, trivial⟩, by decide, rfl, rfl, rfl⟩, ⟨by omega, hsu⟩, by first | ((try dsimp only); omega) | (simp; omega)⟩
                show V.i _ = V.i _
                congr 1
                omega
        · have e2 : j = s.size := by omega
          subst e2
          rw [hp]
          refine stp ?_; try with_reducible exact True.intro
          refine brF (decide_eq_false (by omega)) ?_
          refine stp ?_; try with_reducible exact True.intro
          exact (fitK [] [0])
    · rw [if_neg (fun h => h24 h.2)]
      refine stp ?_; try with_reducible exact True.intro
      refine brT (decide_eq_true (by omega)) ?_
      refine stp ?_; try with_reducible exact True.intro
      exact (fitK [] [])
end Go.Proofs.YtaoepnmhflmhhaaTv
end
section
open Go Go.Proofs.YtaoepnmhflmhhaaVe Go.Proofs.YtaoepnmhflmhhaaTv Go.Proofs
namespace Go.Proofs.YtaoepnmhflmhhaaTv
set_option maxRecDepth 8000
set_option maxHeartbeats 2000000
theorem l13TurnS (c : Int) : ConS Try.prog 55 [.val (.int .u8) c] (.agg (turM c)) := by
  refine conS_of hmix hTab Try.func55 rfl rfl (by kernel_rfl) (by show 1 ≤ Try.f55.ntmps; decide) (by unfold turM; (repeat' split) <;> rfl) ?_
  unfold turM
  refine stp ?_; try with_reducible exact True.intro
  by_cases h1 : c = 82
  · rw [if_pos h1]
    refine brT (decide_eq_true h1) ?_
    refine stp ?_; try with_reducible exact True.intro
    rfl
  rw [if_neg h1]
  refine brF (decide_eq_false h1) ?_
  refine stp ?_; try with_reducible exact True.intro
  by_cases h2 : c = 76
  · rw [if_pos h2]
    refine brT (decide_eq_true h2) ?_
    refine stp ?_; try with_reducible exact True.intro
    rfl
  rw [if_neg h2]
  refine brF (decide_eq_false h2) ?_
  refine stp ?_; try with_reducible exact True.intro
  by_cases h3 : c = 114
  · rw [if_pos h3]
    refine brT (decide_eq_true h3) ?_
    refine stp ?_; try with_reducible exact True.intro
    rfl
  rw [if_neg h3]
  refine brF (decide_eq_false h3) ?_
  refine stp ?_; try with_reducible exact True.intro
  by_cases h4 : c = 108
  · rw [if_pos h4]
    refine brT (decide_eq_true h4) ?_
    refine stp ?_; try with_reducible exact True.intro
    rfl
  rw [if_neg h4]
  refine brF (decide_eq_false h4) ?_
  refine stp ?_; try with_reducible exact True.intro
  rfl
theorem tur_some {c : Int} {t : List (Int × List Int)} (h : tblM c = some t) : ∃ a b d e : Int, turM c = [.i a, .i b, .i d, .i e] ∧ ¬ a = 0 := by
  unfold tblM at h
  unfold turM
  split
  · exact ⟨_, _, _, _, rfl, by decide⟩
  split
  · exact ⟨_, _, _, _, rfl, by decide⟩
  split
  · exact ⟨_, _, _, _, rfl, by decide⟩
  split
  · exact ⟨_, _, _, _, rfl, by decide⟩
  · simp_all
def res0V : Option (List Int × Nat) → V
  | some p => .tup [.own 0 0 p.2, .b true]
  | none => .tup [.own 0 0 0, .b false]
def ob0V : Option (List Int × Nat) → List Obj
  | some p => [.arr (.int .i64) (p.1.take p.2) true]
  | none => [.arr (.int .i64) [] true]
theorem MoveWordS (s : ByteArray) (w : List Int) (hs : (s.size : Int) ≤ 274877906944) (hw : (w.length : Int) ≤ 274877906944) : ConT Try.prog 15 [.s s, .il w] (res0V (moveM s w)) (ob0V (moveM s w)) := by
  refine conT_of hmix hTab Try.func15 rfl rfl (by kernel_rfl) (by show 2 ≤ Try.f15.ntmps; decide) ?_
  have wc := l20Fits w hw
  unfold moveM
  refine stp ?_; try with_reducible exact True.intro
  refine useT (wc.toT) ?_; try with_reducible exact True.intro
  cases hcv : cvOk w with
  | false =>
    rw [if_neg (by simp)]
    refine stp ?_; try with_reducible exact True.intro
    exact (fitK [] [0])
  | true =>
    by_cases h24 : s.size ≤ 24
    · rw [if_pos ⟨rfl, h24⟩]
      refine stp ?_; try with_reducible exact True.intro
      refine brF (decide_eq_false (by omega)) ?_
      refine stp ?_; try with_reducible exact True.intro
      have hok := mvP_ok (s := s) hcv
      obtain ⟨hwl, hwq⟩ := cv_q hcv
      refine useT ((reduceS w (by omega) (fun x hx => (hwq x hx).1))) ?_; try with_reducible exact True.intro
      refine ⟨Nat × (List Int × Nat), fun a => a.1 ≤ s.size ∧ mvP s w a.1 = some a.2, fun a => s.size - a.1, fun a => [(0, .s s), (6, .own 0 0 a.2.2), (7, .i ((s.size : Int) - 1 - a.1))], fun a => [.arr (.int .i64) a.2.1 true], ⟨(0, redP w w.length), ⟨.frz [], [0], ⟨rfl, rfl, ?_, trivial⟩, ⟨rfl, trivial⟩, by decide, rfl, rfl, rfl⟩, Nat.zero_le _, rfl⟩, fun ⟨j, p⟩ ⟨hj, hp⟩ => ?_⟩
      · show V.i _ = V.i _
        congr 1
        dsimp only
        omega
      dsimp only at hj hp ⊢
      obtain ⟨o1, o2, o3, o4⟩ := hok j p hp
      have hsu : mvP s w (j + 1) = match tblM (byteAt s ((s.size : Int) - 1 - j)) with
        | none => none
        | some _ => if 24 < (stepM (byteAt s ((s.size : Int) - 1 - j)) p).2 then none else some (stepM (byteAt s ((s.size : Int) - 1 - j)) p) := by
        (rw [mvP, hp]) <;> rfl
      by_cases hjs : j < s.size
      · have hb := byteAt_rng s ((s.size : Int) - 1 - j)
        have wi := l13TurnS (byteAt s ((s.size : Int) - 1 - j))
        have wim := fun x => l20Image (byteAt s ((s.size : Int) - 1 - j)) x
        generalize hcc : byteAt s ((s.size : Int) - 1 - j) = c at *
        refine stp ?_; try with_reducible exact True.intro
        refine brT (decide_eq_true (by omega)) ?_
        refine stp ?_; try with_reducible exact True.intro
        rw [hcc]
        refine .inl ⟨_, _, wi, ⟨rfl, trivial⟩, ?_⟩
        refine stp ?_; try with_reducible exact True.intro
        cases hc : tblM c with
        | none =>
          rw [hc] at hsu
          rw [mvP_none hsu s.size (by omega)]
          have ht : turM c = [.i 0, .i 0, .i 0, .i 0] := by
            unfold tblM at hc
            unfold turM
            split at hc; · cases hc
            split at hc; · cases hc
            split at hc; · cases hc
            split at hc; · cases hc
            simp_all
          rw [ht]
          refine stp ?_; try with_reducible exact True.intro
          exact (fitK [] [2])
        | some t =>
          rw [hc] at hsu
          simp only at hsu
          obtain ⟨ta, tb, td, te, ht, hn⟩ := tur_some hc
          rw [ht]
          refine stp ?_; try with_reducible exact True.intro
          refine brF (by simp [hn]) ?_
          refine stp ?_; try with_reducible exact True.intro
          refine ⟨Nat, fun k => k ≤ p.2, fun k => p.2 - k, fun k => [(0, .s s), (6, .own 0 0 p.2), (7, .i ((s.size : Int) - 1 - j)), (9, .own 1 0 (nxtM c p k).length), (10, .i k)], fun k => [.arr (.int .i64) p.1 true, .arr (.int .i64) (nxtM c p k) true], ⟨0, (fitK [] [0, 2]), Nat.zero_le _⟩, fun k hk => ?_⟩
          dsimp only at hk ⊢
          have hnl := nxt_len c o4 o1 k hk
          have hnq := nxt_q c o4 k
          refine stp ?_; try with_reducible exact True.intro
          refine Br.mk (fun h5 => ?_) (fun h5 => ?_) <;> simp [-Int.ofNat_toNat] at h5
          · have hx := o4 _ (rd_memA (show k < p.1.length by omega))
            have hst := nxt_succ c h5 o1
            have hlen := (imL_q c hx).2
            have qx : @Eq Int (rdT (.int .i64) p.1 ((Int.toNat (k : Int) : Nat) : Int)) (rd p.1 k) := rfl
            have hx2 := hx
            obtain ⟨⟨x1, x2⟩, x3⟩ := hx
            have wa := l3Abs (rd p.1 k) (by omega)
            refine stp ?_; try with_reducible exact True.intro
            rw [hcc]
            refine .inl ⟨_, _, wa, by repeat (first | exact trivial | refine ⟨by first | exact rfl | exact trivial | exact ⟨_, rfl, rfl⟩ | exact ⟨_, _, rfl, by first | (simp; done) | (simp; omega), by first | (simp; done) | (simp [List.take_of_length_le]; done) | (rw [List.drop_zero]; exact List.take_of_length_le (by first | omega | (simp; omega))) | (simp [List.take_of_length_le]; omega)⟩ | exact ⟨_, rfl, by first | (simp; done) | (simp; omega), by first | (simp; done) | (simp [List.take_of_length_le]; done) | (rw [List.drop_zero]; exact List.take_of_length_le (by first | omega | (simp; omega))) | (simp [List.take_of_length_le]; omega)⟩, ?_⟩), ?_⟩; refine stp ?_; try with_reducible exact True.intro
            refine useT (wim (absI (rd p.1 k))) ?_; try with_reducible exact True.intro
            by_cases hpos : 0 < rd p.1 k
            · have hil : imL c (rd p.1 k) = imgM c (rd p.1 k) := if_pos hpos
              have hab : absI (rd p.1 k) = rd p.1 k := Int.max_eq_left (by omega)
              rw [hil] at hst hlen
              rw [hab]
              refine brF (decide_eq_false (by omega)) ?_
              refine stp ?_; try with_reducible exact True.intro
              refine ⟨k + 1, ⟨.frz [], [0, 3], ⟨rfl, rfl, rfl, ?_, rfl, trivial⟩, ⟨rfl, ?_, trivial⟩, by decide, rfl, rfl, rfl⟩, by first | ((try dsimp only); omega) | (simp; omega), by first | ((try dsimp only); omega) | (simp; omega)⟩
              · rw [hst]
                show V.own 3 0 _ = V.own 3 0 _
                congr 1
                first | rfl | (simp; done) | (simp; rfl)
              · rw [hst]
                refine congrArg (fun x => some (Obj.arr (.int .i64) x true)) ?_
                simp [List.take_of_length_le]
                try rfl
            · have hil : imL c (rd p.1 k) = invP (imgM c (-(rd p.1 k))) 0 := if_neg hpos
              have hab : absI (rd p.1 k) = -(rd p.1 k) := Int.max_eq_right (by omega)
              have hq2 := (imgM_q c (x := -(rd p.1 k)) ⟨by omega, by omega⟩)
              rw [hil] at hst hlen
              rw [hab]
              refine brT (decide_eq_true (by omega)) ?_
              refine stp ?_; try with_reducible exact True.intro
              refine useT ((inverseS (imgM c (-(rd p.1 k))) (by omega) (fun y hy => by have := hq2.1 y hy; unfold Q2 at this; omega))) ?_; try with_reducible exact True.intro
              refine ⟨k + 1, ⟨.frz [], [0, 4], ⟨rfl, rfl, rfl, ?_, rfl, trivial⟩, ⟨rfl, ?_, trivial⟩, by decide, rfl, rfl, rfl⟩, by first | ((try dsimp only); omega) | (simp; omega), by first | ((try dsimp only); omega) | (simp; omega)⟩
              · rw [hst]
                show V.own 4 0 _ = V.own 4 0 _
                congr 1
                first | rfl | (simp; done) | (simp; rfl)
              · rw [hst]
                refine congrArg (fun x => some (Obj.arr (.int .i64) x true)) ?_
                simp [List.take_of_length_le]
                try rfl
          · have e5 : k = p.2 := by omega
            subst e5
            refine stp ?_; try with_reducible exact True.intro
            refine useT ((reduceS (nxtM c p p.2) (by omega) (fun x hx => (nxt_q c o4 _ x hx).1))) ?_; try with_reducible exact True.intro
            by_cases hlong : 24 < (stepM c p).2
            · rw [if_pos hlong] at hsu
              rw [mvP_none hsu s.size (by omega)]
              refine brT (decide_eq_true (by unfold stepM at hlong; omega)) ?_
              refine stp ?_; try with_reducible exact True.intro
              exact (fitK [] [3])
            · rw [if_neg hlong] at hsu
              refine brF (decide_eq_false (by unfold stepM at hlong; omega)) ?_
              refine stp ?_; try with_reducible exact True.intro
              refine ⟨(j + 1, stepM c p), ⟨.frz [], [2], ⟨rfl, rfl, ?_, trivial⟩, ⟨rfl, trivial⟩, by decide, rfl, rfl, rfl⟩, ⟨by omega, hsu⟩, by first | ((try dsimp only); omega) | (simp; omega)⟩
              show V.i _ = V.i _
              congr 1
              omega
      · have e2 : j = s.size := by omega
        subst e2
        rw [hp]
        refine stp ?_; try with_reducible exact True.intro
        refine brF (decide_eq_false (by omega)) ?_
        refine stp ?_; try with_reducible exact True.intro
        refine ⟨.frz [], [2], ⟨?_, trivial⟩, ⟨?_, trivial⟩, by decide, rfl, rfl, rfl⟩
        · show V.tup [V.own 2 0 _, V.b true] = V.tup [V.own 2 0 p.2, V.b true]
          congr 2
          congr 1
          simp; omega
        · first | rfl | (refine congrArg (fun x => some (Obj.arr (.int .i64) x true)) ?_; simp)
    · rw [if_neg (fun h => h24 h.2)]
      refine stp ?_; try with_reducible exact True.intro
      refine brT (decide_eq_true (by omega)) ?_
      refine stp ?_; try with_reducible exact True.intro
      exact (fitK [] [0])
end Go.Proofs.YtaoepnmhflmhhaaTv
end
section
open Go Go.Proofs.YtaoepnmhflmhhaaVe Go.Proofs.YtaoepnmhflmhhaaTv Go.Proofs
namespace Go.Proofs.YtaoepnmhflmhhaaTv
set_option maxRecDepth 8000
set_option maxHeartbeats 2000000
theorem markIntSn (l : List Int) (c : Nat) (n : Int) (hc : c ≤ l.length) (hn : -1000000000000 ≤ n ∧ n ≤ 1000000000000) (hl : (l.length : Int) ≤ 274877906944) : ConI Try.prog 19 [.own 0 0 c, .i n] [.arr (.int .i64) l true] (.i (n + c)) [.arr (.int .i64) (marks n c ++ l.drop c) true] := by
  refine conI_of hmix hTab Try.func19 rfl rfl (by kernel_rfl) (by show 2 ≤ Try.f19.ntmps; decide) ?_
  refine stp ?_; try with_reducible exact True.intro
  refine ⟨Nat, fun i => i ≤ c, fun i => c - i, fun i => [(0, .own 0 0 c), (1, .i (n + i)), (5, .i i)], fun i => [.arr (.int .i64) ((marks n c).take i ++ l.drop i) true], ⟨0, ⟨.frz [], [0], ⟨rfl, by simp [V.ren, EnvV.upd, EnvV.ev, env0T], rfl, trivial⟩, ⟨rfl, trivial⟩, by decide, rfl, rfl, rfl⟩, by simp⟩, fun i hi => ?_⟩
  dsimp only at hi
  have hml := marks_length n c
  have hlen : ((marks n c).take i ++ l.drop i).length = l.length := by simp; omega
  refine stp ?_; try with_reducible exact True.intro
  refine Br.mk (fun h => ?_) (fun h => ?_) <;> simp [-Int.ofNat_toNat] at h
  · refine stp ?_; try with_reducible exact True.intro
    refine ⟨i + 1, ⟨.frz [], [0], ⟨rfl, ?_, rfl, trivial⟩, ⟨?_, trivial⟩, by decide, rfl, rfl, rfl⟩, h, by dsimp only; omega⟩
    · show V.i (n + i + 1) = V.i (n + (i + 1 : Nat))
      rw [show n + (i : Int) + 1 = n + ((i + 1 : Nat) : Int) by omega]
    · refine congrArg (fun x => some (Obj.arr (.int .i64) x true)) ?_
      have h1 : (i : Int).toNat = i := by omega
      rw [h1, List.set_append_right _ _ (by simp; omega), List.take_add_one, marks_get n h]
      have h2 : i - ((marks n c).take i).length = 0 := by simp; omega
      rw [h2, List.drop_eq_getElem_cons (by omega), List.set_cons_zero]
      simp
  · refine stp ?_; try with_reducible exact True.intro
    obtain rfl : i = c := Nat.le_antisymm hi h
    exact ⟨.frz [], [0], ⟨rfl, trivial⟩, ⟨by rw [List.take_of_length_le (by omega)]; rfl, trivial⟩, by decide, rfl, rfl, rfl⟩
theorem moveM_ok {s : ByteArray} {w : List Int} {p : List Int × Nat} (h : moveM s w = some p) : Okp p := by
  unfold moveM at h
  split at h
  · rename_i hc
    exact mvP_ok hc.1 _ _ h
  · cases h
theorem lawMoveWord (s : ByteArray) (w : List Int) (hs : (s.size : Int) ≤ 140737488355328) (hw : (w.length : Int) ≤ 140737488355328) : ConS Try.prog 5 [.s s, .il w] (.b true) := by
  refine conS_of hmix hTab Try.func5 rfl rfl (by kernel_rfl) (by show 2 ≤ Try.f5.ntmps; decide) rfl ?_
  refine stp ?_; try with_reducible exact True.intro
  by_cases h1 : (s.size : Int) > 1048576
  · refine brT (decide_eq_true h1) ?_
    refine stp ?_; try with_reducible exact True.intro
  refine brF (decide_eq_false h1) ?_
  refine stp ?_; try with_reducible exact True.intro
  by_cases h2 : (w.length : Int) > 1048576
  · refine brT (decide_eq_true h2) ?_
    refine stp ?_; try with_reducible exact True.intro
  refine brF (decide_eq_false h2) ?_
  refine stp ?_; try with_reducible exact True.intro
  have wt := toIntS w (by omega)
  have wS := MoveWordS s w (by omega) (by omega)
  have wI := MoveWordI s w (by omega) (by omega)
  have wm := markIntS w 1 (by decide) (by omega)
  have we := eqIntS w w (by omega)
  cases hm : moveM s w with
  | none =>
    rw [hm] at wS wI
    simp only [res0V, ob0V, resV, obV] at wS wI
    refine useT (wt) ?_; try with_reducible exact True.intro
    refine useT (wS) ?_; try with_reducible exact True.intro
    refine useT (wt) ?_; try with_reducible exact True.intro
    refine useT (wI) ?_; try with_reducible exact True.intro
    refine useT ((eqIntS [] [] (by simp)).toT) ?_; try with_reducible exact True.intro
    refine useT (wt) ?_; try with_reducible exact True.intro
    refine useT (we.toT) ?_; try with_reducible exact True.intro
    refine brF (by simp) ?_
    refine stp ?_; try with_reducible exact True.intro
    refine useI [2] (wm) ?_; try with_reducible exact True.intro
    refine useT ((eqIntS [] [] (by simp)).toT) ?_; try with_reducible exact True.intro
    refine useT ((markIntN 1).toT) ?_; try with_reducible exact True.intro
    refine useT ((heldIntN 1).toT) ?_; try with_reducible exact True.intro
    refine useT (wt) ?_; try with_reducible exact True.intro
    refine useT (wI) ?_; try with_reducible exact True.intro
    refine useT ((eqIntS [] [] (by simp)).toT) ?_; try with_reducible exact True.intro
    refine useT ((heldIntN 1).toT) ?_; try with_reducible exact True.intro
  | some p =>
    obtain ⟨o1, o2, o3, o4⟩ := moveM_ok hm
    obtain ⟨l, n⟩ := p
    dsimp only at o1 o2 o3 o4
    rw [hm] at wS wI
    simp only [res0V, ob0V, resV, obV] at wS wI
    refine useT (wt) ?_; try with_reducible exact True.intro
    refine useT (wS) ?_; try with_reducible exact True.intro
    refine useT (wt) ?_; try with_reducible exact True.intro
    refine useT (wI) ?_; try with_reducible exact True.intro
    have hln : (l.take n).length = n := by simp; omega
    have wc := eqIntS (l.take n) (l.take n) (by omega)
    rw [decide_eq_true rfl] at wc
    refine useT wc.toT ?_ ⟨⟨_, _, rfl, by simp; omega, rfl⟩, ⟨_, _, rfl, by simp; omega, by rw [List.drop_zero, List.take_take, Nat.min_self]⟩, trivial⟩
    refine stp ?_; try with_reducible exact True.intro
    refine useT (wt) ?_; try with_reducible exact True.intro
    refine useT (we.toT) ?_; try with_reducible exact True.intro
    refine brF (by simp) ?_
    refine stp ?_; try with_reducible exact True.intro
    refine useI [2] (wm) ?_; try with_reducible exact True.intro
    refine useT wc.toT ?_ ⟨⟨_, _, rfl, by simp; omega, rfl⟩, ⟨_, _, rfl, by simp; omega, by rw [List.drop_zero, List.take_take, Nat.min_self]⟩, trivial⟩
    refine stp ?_; try with_reducible exact True.intro
    have hml := marks_length 1 n
    have htk : List.take n (List.drop 0 (marks 1 n ++ List.drop n l)) = marks 1 n := by
      rw [List.drop_zero, List.take_append_of_le_length (by omega), List.take_of_length_le (by omega)]
    have hge : n ≤ (marks 1 n ++ List.drop n l).length := by simp
    refine useI [3] ((markIntSn l n 1 o1 (by decide) (by omega))) ?_; try with_reducible exact True.intro
    generalize marks 1 n ++ List.drop n l = ll at *
    have wh := heldIntS 1 n (by decide) (by omega)
    refine useT wh.toT ?_ ⟨⟨_, _, rfl, by simpa using hge, htk⟩, rfl, trivial⟩
    refine stp ?_; try with_reducible exact True.intro
    refine brF (by simp) ?_
    refine stp ?_; try with_reducible exact True.intro
    refine useT (wt) ?_; try with_reducible exact True.intro
    refine useT (wI) ?_; try with_reducible exact True.intro
    refine useT wc.toT ?_ ⟨⟨_, _, rfl, by simp; omega, rfl⟩, ⟨_, _, rfl, by simp; omega, by rw [List.drop_zero, List.take_take, Nat.min_self]⟩, trivial⟩
    refine stp ?_; try with_reducible exact True.intro
    refine useT wh.toT ?_ ⟨⟨_, _, rfl, by simpa using hge, htk⟩, rfl, trivial⟩
    refine stp ?_; try with_reducible exact True.intro
    refine brF (by simp) ?_
    refine stp ?_; try with_reducible exact True.intro
end Go.Proofs.YtaoepnmhflmhhaaTv
end
