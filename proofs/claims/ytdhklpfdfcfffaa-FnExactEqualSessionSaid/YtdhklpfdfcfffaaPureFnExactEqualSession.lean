/- The program and the reference agree for all arguments (EqualSession); no condition. -/
import Derived.Test.YtdhklpfdfcfffaaPFnExactEqualSessionx4
namespace Go.Proofs.Ytdhklpfdfcfffaa.Pure
open Go.RowKit Go.Proofs.Ytdhklpfdfcfffaa.PFnExactEqualSession Go.Proofs.YtdhklpfdfcfffaaW.PrintWords Go.Proofs.YtdhklpfdfcfffaaW.PrintLast Go.Proofs.YtdhklpfdfcfffaaW.PrintMore
set_option linter.unusedVariables false
set_option linter.unusedSimpArgs false

theorem ge_dec (a b c : Int) : (if a ≥ b then some (decide (a ≤ c)) else some false) = some (decide (b ≤ a ∧ a ≤ c)) := by
  split
  · next h => have h' : b ≤ a := h; simp [h']
  · next h => have h' : ¬ b ≤ a := h; simp [h']
theorem w64 {n : Int} (h0 : -9223372036854775808 ≤ n) (h1 : n ≤ 9223372036854775807) : wrap64 n = n := by
  unfold wrap64; omega

section
variable {α β : Type}
theorem ev_pos {c : Prop} [Decidable c] {A B : Nat → Option α} {r : α} (hc : c) (h : Ev A r) : Ev (fun k => if c then A k else B k) r := by simp only [if_pos hc]; exact h
theorem ev_neg {c : Prop} [Decidable c] {A B : Nat → Option α} {r : α} (hc : ¬ c) (h : Ev B r) : Ev (fun k => if c then A k else B k) r := by simp only [if_neg hc]; exact h
theorem ev_ite {c : Prop} [Decidable c] {A B : Nat → Option α} {r : α} (h1 : c → Ev A r) (h2 : ¬ c → Ev B r) : Ev (fun k => if c then A k else B k) r := by
  by_cases hc : c
  · exact ev_pos hc (h1 hc)
  · exact ev_neg hc (h2 hc)
theorem ev_val {x : Option β} {F : Nat → β → Option α} {a : β} {r : α} (hx : x = some a) (h : Ev (fun k => F k a) r) : Ev (fun k => x.bind (F k)) r := by subst hx; exact h
theorem ev_ret {r s : α} (h : r = s) : Ev (fun _ => some r) s := by subst h; exact Ev.now _
theorem ev_of {x : Option α} {r : α} (h : x = some r) : Ev (fun _ => x) r := by subst h; exact Ev.now _
theorem ev_bind {g : Nat → Option β} {F : Nat → β → Option α} {a : β} {r : α} (h : Ev g a) (k : Ev (fun n => F n a) r) : Ev (fun n => (g n).bind (F n)) r := Ev.bind h k
theorem ev_at {g : Nat → Option α} {r : α} (hg : ∀ k, LeO (g k) (g (k + 1))) (k : Nat) (h : g k = some r) : Ev g r := Ev.of hg h
end
theorem ev_eq {α : Type} {g : Nat → Option α} {r s : α} (h : Ev g r) (e : r = s) : Ev g s := e ▸ h
theorem ev_fun {α : Type} {g f : Nat → Option α} {r : α} (h : Ev f r) (e : ∀ k, g k = f k) : Ev g r := Ev.congr e h
theorem ev_unique {α : Type} {g : Nat → Option α} {r s : α} (h : Ev g r) (h' : Ev g s) : r = s := by
  obtain ⟨K, h⟩ := h
  obtain ⟨K', h'⟩ := h'
  have a := h (max K K') (by omega)
  have b := h' (max K K') (by omega)
  rw [a] at b
  exact Option.some.inj b

theorem rd_app (l : List Int) (x : Int) (m : List Int) : rd (l ++ x :: m) (l.length : Int) = x := by simp [rd]
theorem set_app (l : List Int) (x y : Int) (m : List Int) : (l ++ x :: m).set ((l.length : Int).toNat) y = l ++ y :: m := by simp
theorem len_snoc (l : List Int) (x : Int) : (((l ++ [x]).length : Nat) : Int) = (l.length : Int) + 1 := by simp

theorem eqIntS_l0 (p : List Int) : ∀ (a q b : List Int), p.length = q.length → a.length = b.length → (p ++ a).length < 9223372036854775807 → Ev (fun k => laws_eqIntS.l0 k (p ++ a) (q ++ b) p.length) (decide (a = b)) := by
  intro a
  induction a generalizing p with
  | nil =>
    intro q b hpq hab _
    obtain rfl : b = [] := by cases b; rfl; simp at hab
    refine Ev.step (fun k => by rw [laws_eqIntS.l0]) ?_
    refine ev_neg (by simp) (ev_ret (by simp))
  | cons x a ih =>
    intro q b hpq hab hl
    obtain ⟨y, b, rfl⟩ : ∃ y c, b = y :: c := by cases b with | nil => simp at hab | cons y c => exact ⟨y, c, rfl⟩
    refine Ev.step (fun k => by rw [laws_eqIntS.l0]) ?_
    refine ev_pos (by simp; omega) (ev_pos (by omega) (ev_pos (by simp; omega) ?_))
    have e2 : rd (q ++ y :: b) (p.length : Int) = y := by rw [hpq]; exact rd_app q y b
    rw [rd_app, e2]
    by_cases hxy : x = y
    · subst hxy
      refine ev_pos rfl ?_
      have h := ih (p ++ [x]) (q ++ [x]) b (by simp [hpq]) (by simpa using hab) (by simpa using hl)
      rw [w64 (by omega) (by simp at hl; omega)]
      simp only [List.append_assoc, List.singleton_append, List.length_append, List.length_singleton] at h
      have e : decide (x :: a = x :: b) = decide (a = b) := by simp
      rw [e]
      exact h
    · refine ev_neg hxy (ev_ret (by simp [hxy]))
theorem eqIntS_ev (a b : List Int) (hl : a.length < 9223372036854775807) : Ev (fun k => laws_eqIntS.f k a b) (decide (a = b)) := by
  by_cases h : a.length = b.length
  · have h1 := eqIntS_l0 [] a [] b rfl h (by simpa using hl)
    simp only [List.nil_append] at h1
    refine Ev.congr (f := fun k => laws_eqIntS.l0 k a b 0) (fun k => ?_) h1
    unfold laws_eqIntS.f
    simp [h]
  · unfold laws_eqIntS.f
    have hn : ¬ a = b := fun e => h (by rw [e])
    exact ev_neg (by omega) (ev_ret (by simp [hn]))

theorem rdL_app (l : List (List Int)) (x : List Int) (m : List (List Int)) : rd_L1 (l ++ x :: m) (l.length : Int) = x := by simp [rd_L1]
theorem setL_app (l : List (List Int)) (x y : List Int) (m : List (List Int)) : (l ++ x :: m).set ((l.length : Int).toNat) y = l ++ y :: m := by simp

theorem i64_lo : IntKind.i64.min = -9223372036854775808 := by decide
theorem i64_hi : IntKind.i64.max = 9223372036854775807 := by decide
theorem wfb {x : Int} (h : (Lit.int .i64 x).wf = true) : -9223372036854775808 ≤ x ∧ x ≤ 9223372036854775807 := by
  have h' : (decide (IntKind.i64.min ≤ x) && decide (x ≤ IntKind.i64.max)) = true := h
  rw [i64_lo, i64_hi] at h'
  simpa using h'
theorem toIntS_l0 : ∀ (q p : List Int) (z : List Int), z.length = q.length → (p ++ q).length < 9000000000000000000 → Ev (fun k => laws_toIntS.l0 k (p ++ q) (p ++ z) p.length) (p ++ q) := by
  intro q
  induction q with
  | nil =>
    intro p z hz hl
    obtain rfl : z = [] := by cases z; rfl; simp at hz
    refine Ev.step (fun k => by rw [laws_toIntS.l0]) ?_
    exact ev_neg (by simp) (ev_ret rfl)
  | cons x q ih =>
    intro p z hz hl
    obtain ⟨y, z, rfl⟩ : ∃ y c, z = y :: c := by cases z with | nil => simp at hz | cons y c => exact ⟨y, c, rfl⟩
    refine Ev.step (fun k => by rw [laws_toIntS.l0]) ?_
    refine ev_pos (by simp; omega) (ev_pos (by omega) (ev_pos (by simp; omega) ?_))
    rw [rd_app, set_app, w64 (by omega) (by simp at hl; omega)]
    have h := ih (p ++ [x]) z (by simpa using hz) (by simpa using hl)
    simp only [List.append_assoc, List.singleton_append, List.length_append, List.length_singleton, Int.natCast_add, Int.natCast_one] at h
    exact h
theorem toIntS_ev (l : List Int) (hl : l.length ≤ 35184372088832) : Ev (fun k => laws_toIntS.f k l) l := by
  have h := toIntS_l0 l [] (List.replicate l.length 0) (by simp) (by simp; omega)
  simp only [List.nil_append] at h
  unfold laws_toIntS.f
  refine ev_pos (by omega) (ev_pos (by simpa using hl) ?_)
  rw [show ((l.length : Int)).toNat = l.length by simp]
  exact h

theorem toIntSS_l0 : ∀ (q p z : List (List Int)), z.length = q.length → (p ++ q).length ≤ 1048576 → (∀ x ∈ q, x.length ≤ 1048576) → Ev (fun k => laws_toIntSS.l0 k (p ++ q) (p ++ z) p.length) (p ++ q) := by
  intro q
  induction q with
  | nil =>
    intro p z hz hl _
    obtain rfl : z = [] := by cases z; rfl; simp at hz
    refine Ev.step (fun k => by rw [laws_toIntSS.l0]) ?_
    exact ev_neg (by simp) (ev_ret rfl)
  | cons x q ih =>
    intro p z hz hl hx
    obtain ⟨y, z, rfl⟩ : ∃ y c, z = y :: c := by cases z with | nil => simp at hz | cons y c => exact ⟨y, c, rfl⟩
    refine Ev.step (fun k => by rw [laws_toIntSS.l0]) ?_
    refine ev_pos (by simp; omega) (ev_pos (by omega) ?_)
    rw [rdL_app]
    refine ev_bind (toIntS_ev x (by have := hx x (by simp); omega)) ?_
    refine ev_pos (by simp; omega) ?_
    rw [setL_app, w64 (by omega) (by simp at hl; omega)]
    have h := ih (p ++ [x]) z (by simpa using hz) (by simpa using hl) (fun z hz => hx z (by simp [hz]))
    simp only [List.append_assoc, List.singleton_append, List.length_append, List.length_singleton, Int.natCast_add, Int.natCast_one] at h
    exact h
theorem toIntSS_ev (l : List (List Int)) (hl : l.length ≤ 1048576) (hx : ∀ x ∈ l, x.length ≤ 1048576) : Ev (fun k => laws_toIntSS.f k l) l := by
  have h := toIntSS_l0 l [] (List.replicate l.length []) (by simp) (by simpa using hl) hx
  simp only [List.nil_append] at h
  unfold laws_toIntSS.f
  refine ev_pos (by omega) (ev_pos (by simp; omega) ?_)
  rw [show ((l.length : Int)).toNat = l.length by simp]
  exact h

theorem eqIntSS_l0 (p : List (List Int)) : ∀ (a q b : List (List Int)), p.length = q.length → a.length = b.length → (p ++ a).length ≤ 1048576 → (∀ x ∈ a, x.length ≤ 1048576) → Ev (fun k => laws_eqIntSS.l0 k (p ++ a) (q ++ b) p.length) (decide (a = b)) := by
  intro a
  induction a generalizing p with
  | nil =>
    intro q b hpq hab _ _
    obtain rfl : b = [] := by cases b; rfl; simp at hab
    refine Ev.step (fun k => by rw [laws_eqIntSS.l0]) ?_
    refine ev_neg (by simp) (ev_ret (by simp))
  | cons x a ih =>
    intro q b hpq hab hl hx
    obtain ⟨y, b, rfl⟩ : ∃ y c, b = y :: c := by cases b with | nil => simp at hab | cons y c => exact ⟨y, c, rfl⟩
    have e1 : rd_L1 (p ++ x :: a) (p.length : Int) = x := rdL_app p x a
    have e2 : rd_L1 (q ++ y :: b) (p.length : Int) = y := by rw [hpq]; exact rdL_app q y b
    refine Ev.step (fun k => by rw [laws_eqIntSS.l0]) ?_
    refine ev_pos (by simp; omega) (ev_pos (by omega) ((ev_pos (by simp; omega) ?_)))
    rw [e1, e2]
    refine ev_bind (eqIntS_ev x y (by have := hx x (by simp); omega)) ?_
    by_cases hxy : x = y
    · subst hxy
      refine ev_pos (decide_eq_true rfl) ?_
      have h := ih (p ++ [x]) (q ++ [x]) b (by simp [hpq]) (by simpa using hab) (by simpa using hl) (fun z hz => hx z (by simp [hz]))
      rw [w64 (by omega) (by simp at hl; omega)]
      simp only [List.append_assoc, List.singleton_append, List.length_append, List.length_singleton] at h
      have e : decide (x :: a = x :: b) = decide (a = b) := by simp
      rw [e]
      skip
      exact h
    · refine ev_neg (by simp [hxy]) (ev_ret (by simp [hxy]))
theorem eqIntSS_ev (a b : List (List Int)) (hl : a.length ≤ 1048576) (hx : ∀ x ∈ a, x.length ≤ 1048576) : Ev (fun k => laws_eqIntSS.f k a b) (decide (a = b)) := by
  by_cases h : a.length = b.length
  · have h1 := eqIntSS_l0 [] a [] b rfl h (by simpa using hl) hx
    simp only [List.nil_append] at h1
    refine Ev.congr (f := fun k => laws_eqIntSS.l0 k a b 0) (fun k => ?_) h1
    unfold laws_eqIntSS.f
    simp [h]
  · unfold laws_eqIntSS.f
    have hn : ¬ a = b := fun e => h (by rw [e])
    exact ev_neg (by omega) (ev_ret (by simp [hn]))

theorem maxLen_is : maxLen = 9223372036854775807 := by decide
theorem szIntS_of (l : List Int) (a : Int) (hl : l.length ≤ maxLen) (h0 : 0 ≤ a) (h1 : a ≤ 1048576) : ∃ r : Int, laws_szIntS.f l a = some r ∧ r ≤ a ∧ (0 ≤ r → l.length ≤ 1048576) := by
  rw [maxLen_is] at hl
  unfold laws_szIntS.f
  rw [w64 (by omega) (by omega)]
  by_cases h : a - (l.length : Int) < 0
  · exact ⟨-1, by rw [if_pos h], by omega, by omega⟩
  · exact ⟨a - l.length, by rw [if_neg h], by omega, by omega⟩
theorem szIntSS_l0 : ∀ (q p : List (List Int)) (a : Int), 0 ≤ a → a ≤ 1048576 → (p ++ q).length ≤ 1048576 → (∀ x ∈ q, x.length ≤ maxLen) → ∃ r : Int, Ev (fun k => laws_szIntSS.l0 k (p ++ q) a p.length) r ∧ r ≤ a ∧ (0 ≤ r → ∀ x ∈ q, x.length ≤ 1048576) := by
  intro q
  induction q with
  | nil =>
    intro p a h0 h1 _ _
    refine ⟨a, ?_, by omega, by simp⟩
    refine Ev.step (fun k => by rw [laws_szIntSS.l0]) ?_
    exact ev_neg (by simp) (ev_ret rfl)
  | cons x q ih =>
    intro p a h0 h1 hl hx
    obtain ⟨r, e, hr, hs⟩ := szIntS_of x a (hx x (by simp)) h0 h1
    by_cases hn : r < 0
    · refine ⟨-1, ?_, by omega, by omega⟩
      refine Ev.step (fun k => by rw [laws_szIntSS.l0]) ?_
      refine ev_pos (by simp; omega) (ev_pos (by omega) ?_)
      rw [rdL_app]
      exact ev_val e (ev_pos hn (ev_ret rfl))
    · obtain ⟨r2, h, hr2, hs2⟩ := ih (p ++ [x]) r (by omega) (by omega) (by simpa using hl) (fun z hz => hx z (by simp [hz]))
      refine ⟨r2, ?_, by omega, fun h z hz => ?_⟩
      · refine Ev.step (fun k => by rw [laws_szIntSS.l0]) ?_
        refine ev_pos (by simp; omega) (ev_pos (by omega) ?_)
        rw [rdL_app]
        refine ev_val e (ev_neg hn ?_)
        rw [w64 (by omega) (by simp at hl; omega)]
        simp only [List.append_assoc, List.singleton_append, List.length_append, List.length_singleton, Int.natCast_add, Int.natCast_one] at h
        exact h
      · rcases List.mem_cons.1 hz with rfl | hz
        · exact hs (by omega)
        · exact hs2 h z hz
theorem szIntSS_ev (l : List (List Int)) (a : Int) (h0 : 0 ≤ a) (h1 : a ≤ 1048576) (hl : l.length ≤ maxLen) (hx : ∀ x ∈ l, x.length ≤ maxLen) : ∃ r : Int, Ev (fun k => laws_szIntSS.f k l a) r ∧ r ≤ a ∧ (0 ≤ r → l.length ≤ 1048576 ∧ ∀ x ∈ l, x.length ≤ 1048576) := by
  have hl' := hl
  rw [maxLen_is] at hl'
  unfold laws_szIntSS.f
  rw [w64 (by omega) (by omega)]
  by_cases h : a - (l.length : Int) < 0
  · exact ⟨-1, ev_pos h (ev_ret rfl), by omega, by omega⟩
  · obtain ⟨r, h2, h3, h4⟩ := szIntSS_l0 l [] (a - l.length) (by omega) (by omega) (by simp; omega) hx
    simp only [List.nil_append] at h2
    exact ⟨r, ev_neg h h2, by omega, fun h5 => ⟨by omega, h4 h5⟩⟩

def SesOk (a0 : List (List Int)) (a1 : List (List Int)) (a2 : List Int) (a3 : ByteArray) (a4 : List Int) : Prop := (a0.length ≤ 1048576 ∧ ∀ x ∈ a0, x.length ≤ 1048576) ∧ (a1.length ≤ 1048576 ∧ ∀ x ∈ a1, x.length ≤ 1048576) ∧ a2.length ≤ 1048576 ∧ a4.length ≤ 1048576
theorem szSession_ev (a0 : List (List Int)) (a1 : List (List Int)) (a2 : List Int) (a3 : ByteArray) (a4 : List Int) (a : Int) (h0 : 0 ≤ a) (h1 : a ≤ 1048576) (l0 : a0.length ≤ maxLen) (x0 : ∀ x ∈ a0, x.length ≤ maxLen) (l1 : a1.length ≤ maxLen) (x1 : ∀ x ∈ a1, x.length ≤ maxLen) (l2 : a2.length ≤ maxLen) (l3 : a3.size ≤ maxLen) (l4 : a4.length ≤ maxLen) : ∃ r : Int, Ev (fun k => laws_szSession.f k a0 a1 a2 a3 a4 a) r ∧ r ≤ a ∧ (0 ≤ r → SesOk a0 a1 a2 a3 a4) := by
  obtain ⟨r0, e0, i0, j0⟩ := szIntSS_ev a0 a h0 h1 l0 x0
  unfold laws_szSession.f
  by_cases n0 : r0 < 0
  · exact ⟨-1, ev_bind e0 (ev_pos n0 (ev_ret rfl)), by omega, by omega⟩
  obtain ⟨r1, e1, i1, j1⟩ := szIntSS_ev a1 r0 (by omega) (by omega) l1 x1
  by_cases n1 : r1 < 0
  · exact ⟨-1, ev_bind e0 (ev_neg n0 (ev_bind e1 (ev_pos n1 (ev_ret rfl)))), by omega, by omega⟩
  obtain ⟨r2, e2, i2, j2⟩ := szIntS_of a2 r1 l2 (by omega) (by omega)
  by_cases n2 : r2 < 0
  · exact ⟨-1, ev_bind e0 (ev_neg n0 (ev_bind e1 (ev_neg n1 (ev_val e2 (ev_pos n2 (ev_ret rfl)))))), by omega, by omega⟩
  have w : wrap64 (r2 - (a3.size : Int)) = r2 - a3.size := by rw [maxLen_is] at l3; exact w64 (by omega) (by omega)
  by_cases n3 : wrap64 (r2 - (a3.size : Int)) < 0
  · exact ⟨-1, ev_bind e0 (ev_neg n0 (ev_bind e1 (ev_neg n1 (ev_val e2 (ev_neg n2 (ev_pos n3 (ev_ret rfl))))))), by omega, by omega⟩
  obtain ⟨r4, e4, i4, j4⟩ := szIntS_of a4 (wrap64 (r2 - (a3.size : Int))) l4 (by omega) (by omega)
  by_cases n4 : r4 < 0
  · exact ⟨-1, ev_bind e0 (ev_neg n0 (ev_bind e1 (ev_neg n1 (ev_val e2 (ev_neg n2 (ev_neg n3 (ev_val e4 (ev_pos n4 (ev_ret rfl))))))))), by omega, by omega⟩
  · exact ⟨r4, ev_bind e0 (ev_neg n0 (ev_bind e1 (ev_neg n1 (ev_val e2 (ev_neg n2 (ev_neg n3 (ev_val e4 (ev_neg n4 (ev_ret rfl))))))))), by omega, fun _ => ⟨j0 (by omega), j1 (by omega), j2 (by omega), j4 (by omega)⟩⟩
theorem toSession_ev (a0 : List (List Int)) (a1 : List (List Int)) (a2 : List Int) (a3 : ByteArray) (a4 : List Int) (h : SesOk a0 a1 a2 a3 a4) : Ev (fun k => laws_toSession.f k a0 a1 a2 a3 a4) (a0, a1, a2, a3, a4) := by
  obtain ⟨⟨h0, x0⟩, ⟨h1, x1⟩, h2, h4⟩ := h
  unfold laws_toSession.f
  exact ev_bind (toIntSS_ev a0 h0 x0) (ev_bind (toIntSS_ev a1 h1 x1) (ev_bind (toIntS_ev a2 (by omega)) (ev_bind (toIntS_ev a4 (by omega)) (ev_ret rfl))))
theorem eqSession_same (a0 : List (List Int)) (a1 : List (List Int)) (a2 : List Int) (a3 : ByteArray) (a4 : List Int) (h : SesOk a0 a1 a2 a3 a4) : Ev (fun k => laws_eqSession.f k a0 a1 a2 a3 a4 a0 a1 a2 a3 a4) true := by
  obtain ⟨⟨h0, x0⟩, ⟨h1, x1⟩, h2, h4⟩ := h
  unfold laws_eqSession.f
  exact ev_bind (eqIntSS_ev a0 a0 h0 x0) (ev_pos (decide_eq_true rfl) (ev_bind (eqIntSS_ev a1 a1 h1 x1) (ev_pos (decide_eq_true rfl) (ev_bind (eqIntS_ev a2 a2 (by omega)) (ev_pos (decide_eq_true rfl) (ev_pos rfl (ev_bind (eqIntS_ev a4 a4 (by omega)) (ev_pos (decide_eq_true rfl) (ev_ret rfl)))))))))

theorem l2Same_l0 (p : List Int) : ∀ (a q b : List Int), p.length = q.length → a.length = b.length → (p ++ a).length < 9223372036854775807 → Ev (fun k => spec_l2Same.l0 k (p ++ a) (q ++ b) p.length) (decide (a = b)) := by
  intro a
  induction a generalizing p with
  | nil =>
    intro q b hpq hab _
    obtain rfl : b = [] := by cases b; rfl; simp at hab
    refine Ev.step (fun k => by rw [spec_l2Same.l0]) ?_
    refine ev_neg (by simp) (ev_ret (by simp))
  | cons x a ih =>
    intro q b hpq hab hl
    obtain ⟨y, b, rfl⟩ : ∃ y c, b = y :: c := by cases b with | nil => simp at hab | cons y c => exact ⟨y, c, rfl⟩
    refine Ev.step (fun k => by rw [spec_l2Same.l0]) ?_
    refine ev_pos (by simp; omega) (ev_pos (by omega) ((ev_pos (by simp; omega) ?_)))
    have e2 : rd (q ++ y :: b) (p.length : Int) = y := by rw [hpq]; exact rd_app q y b
    rw [rd_app, e2]
    by_cases hxy : x = y
    · subst hxy
      refine ev_pos rfl ?_
      have h := ih (p ++ [x]) (q ++ [x]) b (by simp [hpq]) (by simpa using hab) (by simpa using hl)
      rw [w64 (by omega) (by simp at hl; omega)]
      simp only [List.append_assoc, List.singleton_append, List.length_append, List.length_singleton] at h
      have e : decide (x :: a = x :: b) = decide (a = b) := by simp
      rw [e]
      skip
      exact h
    · refine ev_neg hxy (ev_ret (by simp [hxy]))
theorem l2Same_ev (a b : List Int) (hl : a.length < 9223372036854775807) : Ev (fun k => spec_l2Same.f k a b) (decide (a = b)) := by
  by_cases h : a.length = b.length
  · have h1 := l2Same_l0 [] a [] b rfl h (by simpa using hl)
    simp only [List.nil_append] at h1
    refine Ev.congr (f := fun k => spec_l2Same.l0 k a b 0) (fun k => ?_) h1
    unfold spec_l2Same.f
    simp [h]
  · unfold spec_l2Same.f
    have hn : ¬ a = b := fun e => h (by rw [e])
    exact ev_neg (by omega) (ev_ret (by simp [hn]))
theorem l11Same_l0 (p : List (List Int)) : ∀ (a q b : List (List Int)), p.length = q.length → a.length = b.length → (p ++ a).length ≤ 1048576 → (∀ x ∈ a, x.length ≤ 1048576) → Ev (fun k => spec_l11Same.l0 k (p ++ a) (q ++ b) p.length) (decide (a = b)) := by
  intro a
  induction a generalizing p with
  | nil =>
    intro q b hpq hab _ _
    obtain rfl : b = [] := by cases b; rfl; simp at hab
    refine Ev.step (fun k => by rw [spec_l11Same.l0]) ?_
    refine ev_neg (by simp) (ev_ret (by simp))
  | cons x a ih =>
    intro q b hpq hab hl hx
    obtain ⟨y, b, rfl⟩ : ∃ y c, b = y :: c := by cases b with | nil => simp at hab | cons y c => exact ⟨y, c, rfl⟩
    have e1 : rd_L1 (p ++ x :: a) (p.length : Int) = x := rdL_app p x a
    have e2 : rd_L1 (q ++ y :: b) (p.length : Int) = y := by rw [hpq]; exact rdL_app q y b
    refine Ev.step (fun k => by rw [spec_l11Same.l0]) ?_
    refine ev_pos (by simp; omega) (ev_pos (by omega) ((ev_pos (by simp; omega) ?_)))
    rw [e1, e2]
    refine ev_bind (l2Same_ev x y (by have := hx x (by simp); omega)) ?_
    by_cases hxy : x = y
    · subst hxy
      refine ev_pos (decide_eq_true rfl) ?_
      have h := ih (p ++ [x]) (q ++ [x]) b (by simp [hpq]) (by simpa using hab) (by simpa using hl) (fun z hz => hx z (by simp [hz]))
      rw [w64 (by omega) (by simp at hl; omega)]
      simp only [List.append_assoc, List.singleton_append, List.length_append, List.length_singleton] at h
      have e : decide (x :: a = x :: b) = decide (a = b) := by simp
      rw [e]
      skip
      exact h
    · refine ev_neg (by simp [hxy]) (ev_ret (by simp [hxy]))
theorem l11Same_ev (a b : List (List Int)) (hl : a.length ≤ 1048576) (hx : ∀ x ∈ a, x.length ≤ 1048576) : Ev (fun k => spec_l11Same.f k a b) (decide (a = b)) := by
  by_cases h : a.length = b.length
  · have h1 := l11Same_l0 [] a [] b rfl h (by simpa using hl) hx
    simp only [List.nil_append] at h1
    refine Ev.congr (f := fun k => spec_l11Same.l0 k a b 0) (fun k => ?_) h1
    unfold spec_l11Same.f
    simp [h]
  · unfold spec_l11Same.f
    have hn : ¬ a = b := fun e => h (by rw [e])
    exact ev_neg (by omega) (ev_ret (by simp [hn]))
theorem sameInts_l0 (p : List Int) : ∀ (a q b : List Int), p.length = q.length → a.length = b.length → (p ++ a).length < 9223372036854775807 → Ev (fun k => impl_sameInts.l0 k (p ++ a) (q ++ b) ((p ++ a).length : Int) p.length) (decide (a = b)) := by
  intro a
  induction a generalizing p with
  | nil =>
    intro q b hpq hab _
    obtain rfl : b = [] := by cases b; rfl; simp at hab
    refine Ev.step (fun k => by rw [impl_sameInts.l0]) ?_
    refine ev_neg (by simp) (ev_ret (by simp))
  | cons x a ih =>
    intro q b hpq hab hl
    obtain ⟨y, b, rfl⟩ : ∃ y c, b = y :: c := by cases b with | nil => simp at hab | cons y c => exact ⟨y, c, rfl⟩
    refine Ev.step (fun k => by rw [impl_sameInts.l0]) ?_
    refine ev_pos (by simp; omega) (ev_pos (by omega) (ev_pos (by simp; omega) (ev_pos (by simp; omega) ?_)))
    have e2 : rd (q ++ y :: b) (p.length : Int) = y := by rw [hpq]; exact rd_app q y b
    rw [rd_app, e2]
    by_cases hxy : x = y
    · subst hxy
      refine ev_pos rfl ?_
      have h := ih (p ++ [x]) (q ++ [x]) b (by simp [hpq]) (by simpa using hab) (by simpa using hl)
      rw [w64 (by omega) (by simp at hl; omega)]
      simp only [List.append_assoc, List.singleton_append, List.length_append, List.length_singleton] at h
      have e : decide (x :: a = x :: b) = decide (a = b) := by simp
      rw [e]
      simp only [List.length_append]
      exact h
    · refine ev_neg hxy (ev_ret (by simp [hxy]))
theorem sameInts_ev (a b : List Int) (hl : a.length < 9223372036854775807) : Ev (fun k => impl_sameInts.f k a b) (decide (a = b)) := by
  by_cases h : a.length = b.length
  · have h1 := sameInts_l0 [] a [] b rfl h (by simpa using hl)
    simp only [List.nil_append] at h1
    refine Ev.congr (f := fun k => impl_sameInts.l0 k a b (a.length : Int) 0) (fun k => ?_) h1
    unfold impl_sameInts.f
    simp [h]
  · unfold impl_sameInts.f
    have hn : ¬ a = b := fun e => h (by rw [e])
    exact ev_neg (by omega) (ev_ret (by simp [hn]))
theorem sameRows_l0 (p : List (List Int)) : ∀ (a q b : List (List Int)), p.length = q.length → a.length = b.length → (p ++ a).length ≤ 1048576 → (∀ x ∈ a, x.length ≤ 1048576) → Ev (fun k => impl_sameRows.l0 k (p ++ a) (q ++ b) ((p ++ a).length : Int) p.length) (decide (a = b)) := by
  intro a
  induction a generalizing p with
  | nil =>
    intro q b hpq hab _ _
    obtain rfl : b = [] := by cases b; rfl; simp at hab
    refine Ev.step (fun k => by rw [impl_sameRows.l0]) ?_
    refine ev_neg (by simp) (ev_ret (by simp))
  | cons x a ih =>
    intro q b hpq hab hl hx
    obtain ⟨y, b, rfl⟩ : ∃ y c, b = y :: c := by cases b with | nil => simp at hab | cons y c => exact ⟨y, c, rfl⟩
    have e1 : rd_L1 (p ++ x :: a) (p.length : Int) = x := rdL_app p x a
    have e2 : rd_L1 (q ++ y :: b) (p.length : Int) = y := by rw [hpq]; exact rdL_app q y b
    refine Ev.step (fun k => by rw [impl_sameRows.l0]) ?_
    refine ev_pos (by simp; omega) (ev_pos (by omega) (ev_pos (by simp; omega) (ev_pos (by simp; omega) ?_)))
    rw [e1, e2]
    refine ev_bind (sameInts_ev x y (by have := hx x (by simp); omega)) ?_
    by_cases hxy : x = y
    · subst hxy
      refine ev_pos (decide_eq_true rfl) ?_
      have h := ih (p ++ [x]) (q ++ [x]) b (by simp [hpq]) (by simpa using hab) (by simpa using hl) (fun z hz => hx z (by simp [hz]))
      rw [w64 (by omega) (by simp at hl; omega)]
      simp only [List.append_assoc, List.singleton_append, List.length_append, List.length_singleton] at h
      have e : decide (x :: a = x :: b) = decide (a = b) := by simp
      rw [e]
      simp only [List.length_append]
      exact h
    · refine ev_neg (by simp [hxy]) (ev_ret (by simp [hxy]))
theorem sameRows_ev (a b : List (List Int)) (hl : a.length ≤ 1048576) (hx : ∀ x ∈ a, x.length ≤ 1048576) : Ev (fun k => impl_sameRows.f k a b) (decide (a = b)) := by
  by_cases h : a.length = b.length
  · have h1 := sameRows_l0 [] a [] b rfl h (by simpa using hl) hx
    simp only [List.nil_append] at h1
    refine Ev.congr (f := fun k => impl_sameRows.l0 k a b (a.length : Int) 0) (fun k => ?_) h1
    unfold impl_sameRows.f
    simp [h]
  · unfold impl_sameRows.f
    have hn : ¬ a = b := fun e => h (by rw [e])
    exact ev_neg (by omega) (ev_ret (by simp [hn]))
theorem specSes (a0 : List (List Int)) (a1 : List (List Int)) (a2 : List Int) (a3 : ByteArray) (a4 : List Int) (b0 : List (List Int)) (b1 : List (List Int)) (b2 : List Int) (b3 : ByteArray) (b4 : List Int) (h : SesOk a0 a1 a2 a3 a4) : Ev (fun k => spec_EqualSession.f k a0 a1 a2 a3 a4 b0 b1 b2 b3 b4) (if a0 = b0 then if a1 = b1 then if a2 = b2 then if a3.toList = b3.toList then decide (a4 = b4) else false else false else false else false) := by
  obtain ⟨⟨h0, x0⟩, ⟨h1, x1⟩, h2, h4⟩ := h
  unfold spec_EqualSession.f
  refine ev_bind (l11Same_ev a0 b0 h0 x0) ?_
  by_cases c0 : a0 = b0
  · refine ev_pos (decide_eq_true c0) (ev_bind (l11Same_ev a1 b1 h1 x1) ?_)
    rw [if_pos c0]
    by_cases c1 : a1 = b1
    · refine ev_pos (decide_eq_true c1) (ev_bind (l2Same_ev a2 b2 (by omega)) ?_)
      rw [if_pos c1]
      by_cases c2 : a2 = b2
      · refine ev_pos (decide_eq_true c2) ?_
        rw [if_pos c2]
        by_cases c3 : a3.toList = b3.toList
        · rw [if_pos c3]
          exact ev_pos c3 (ev_bind (l2Same_ev a4 b4 (by omega)) (ev_ret rfl))
        · rw [if_neg c3]
          exact ev_neg c3 (ev_ret rfl)
      · rw [if_neg c2]
        exact ev_neg (by simp [c2]) (ev_ret rfl)
    · rw [if_neg c1]
      exact ev_neg (by simp [c1]) (ev_ret rfl)
  · rw [if_neg c0]
    exact ev_neg (by simp [c0]) (ev_ret rfl)
theorem implSes (a0 : List (List Int)) (a1 : List (List Int)) (a2 : List Int) (a3 : ByteArray) (a4 : List Int) (b0 : List (List Int)) (b1 : List (List Int)) (b2 : List Int) (b3 : ByteArray) (b4 : List Int) (h : SesOk a0 a1 a2 a3 a4) : Ev (fun k => impl_EqualSession.f k a0 a1 a2 a3 a4 b0 b1 b2 b3 b4) (if a0 = b0 then if a1 = b1 then if a2 = b2 then if a3.toList = b3.toList then decide (a4 = b4) else false else false else false else false) := by
  obtain ⟨⟨h0, x0⟩, ⟨h1, x1⟩, h2, h4⟩ := h
  unfold impl_EqualSession.f
  refine ev_bind (sameRows_ev a0 b0 h0 x0) ?_
  by_cases c0 : a0 = b0
  · refine ev_pos (decide_eq_true c0) (ev_bind (sameRows_ev a1 b1 h1 x1) ?_)
    rw [if_pos c0]
    by_cases c1 : a1 = b1
    · refine ev_pos (decide_eq_true c1) (ev_bind (sameInts_ev a2 b2 (by omega)) ?_)
      rw [if_pos c1]
      by_cases c2 : a2 = b2
      · refine ev_pos (decide_eq_true c2) ?_
        rw [if_pos c2]
        by_cases c3 : a3.toList = b3.toList
        · rw [if_pos c3]
          exact ev_pos c3 (ev_bind (sameInts_ev a4 b4 (by omega)) (ev_ret rfl))
        · rw [if_neg c3]
          exact ev_neg c3 (ev_ret rfl)
      · rw [if_neg c2]
        exact ev_neg (by simp [c2]) (ev_ret rfl)
    · rw [if_neg c1]
      exact ev_neg (by simp [c1]) (ev_ret rfl)
  · rw [if_neg c0]
    exact ev_neg (by simp [c0]) (ev_ret rfl)

theorem FnExactEqualSession : ∀ (l0_0 : List (List Int)) (l0_1 : List (List Int)) (l0_2 : List Int) (a0_3 : ByteArray) (l0_4 : List Int) (l1_0 : List (List Int)) (l1_1 : List (List Int)) (l1_2 : List Int) (a1_3 : ByteArray) (l1_4 : List Int), l0_0.length ≤ maxLen → (∀ x ∈ l0_0, x.length ≤ maxLen ∧ ∀ y ∈ x, (Lit.int .i64 y).wf = true) → l0_1.length ≤ maxLen → (∀ x ∈ l0_1, x.length ≤ maxLen ∧ ∀ y ∈ x, (Lit.int .i64 y).wf = true) → l0_2.length ≤ maxLen → (∀ x ∈ l0_2, (Lit.int .i64 x).wf = true) → a0_3.size ≤ maxLen → l0_4.length ≤ maxLen → (∀ x ∈ l0_4, (Lit.int .i64 x).wf = true) → l1_0.length ≤ maxLen → (∀ x ∈ l1_0, x.length ≤ maxLen ∧ ∀ y ∈ x, (Lit.int .i64 y).wf = true) → l1_1.length ≤ maxLen → (∀ x ∈ l1_1, x.length ≤ maxLen ∧ ∀ y ∈ x, (Lit.int .i64 y).wf = true) → l1_2.length ≤ maxLen → (∀ x ∈ l1_2, (Lit.int .i64 x).wf = true) → a1_3.size ≤ maxLen → l1_4.length ≤ maxLen → (∀ x ∈ l1_4, (Lit.int .i64 x).wf = true) → ∃ k, laws_FnExactEqualSession.f k l0_0 l0_1 l0_2 a0_3 l0_4 l1_0 l1_1 l1_2 a1_3 l1_4 = some true := by
  intro a0 a1 a2 a3 a4 b0 b1 b2 b3 b4 l0 g0 l1 g1 l2 _ l3 l4 _ m0 f0 m1 f1 m2 _ m3 m4 _
  suffices h : Ev (fun k => laws_FnExactEqualSession.f k a0 a1 a2 a3 a4 b0 b1 b2 b3 b4) true by
    obtain ⟨K, h⟩ := h
    exact ⟨K, h K (Nat.le_refl _)⟩
  unfold laws_FnExactEqualSession.f
  obtain ⟨r, e, i, j⟩ := szSession_ev a0 a1 a2 a3 a4 1048576 (by omega) (by omega) l0 (fun x hx => (g0 x hx).1) l1 (fun x hx => (g1 x hx).1) l2 l3 l4
  refine ev_bind e ?_
  by_cases n : r < 0
  · exact ev_pos n (ev_ret rfl)
  obtain ⟨r2, e2, i2, j2⟩ := szSession_ev b0 b1 b2 b3 b4 r (by omega) (by omega) m0 (fun x hx => (f0 x hx).1) m1 (fun x hx => (f1 x hx).1) m2 m3 m4
  refine ev_neg n (ev_bind e2 ?_)
  by_cases n2 : r2 < 0
  · exact ev_pos n2 (ev_ret rfl)
  have oa := j (by omega)
  have ob := j2 (by omega)
  have ta := toSession_ev a0 a1 a2 a3 a4 oa
  have tb := toSession_ev b0 b1 b2 b3 b4 ob
  refine ev_neg n2 (ev_bind ta (ev_bind tb (ev_bind (specSes a0 a1 a2 a3 a4 b0 b1 b2 b3 b4 oa) (ev_bind ta (ev_bind tb (ev_bind (implSes a0 a1 a2 a3 a4 b0 b1 b2 b3 b4 oa) ?_))))))
  refine ev_neg (by simp) (ev_bind ta (ev_bind (eqSession_same a0 a1 a2 a3 a4 oa) (ev_pos rfl (ev_bind tb (ev_bind (eqSession_same b0 b1 b2 b3 b4 ob) (ev_pos rfl (ev_ret rfl)))))))

end Go.Proofs.Ytdhklpfdfcfffaa.Pure
