/- The program and the reference agree for all arguments (ExampleWord); no condition. -/
import Derived.Test.YtaamfciheanedaaPFnExactExampleWordx2
namespace Go.Proofs.Ytaamfciheanedaa.Pure
open Go.RowKit Go.Proofs.Ytaamfciheanedaa.PFnExactExampleWord Go.Proofs.YtaamfciheanedaaW.PrintWords Go.Proofs.YtaamfciheanedaaW.PrintLast Go.Proofs.YtaamfciheanedaaW.PrintMore
set_option linter.unusedVariables false
set_option linter.unusedSimpArgs false

theorem ge_dec (a b c : Int) : (if a ≥ b then some (decide (a ≤ c)) else some false) = some (decide (b ≤ a ∧ a ≤ c)) := by
  split
  · next h => have h' : b ≤ a := h; simp [h']
  · next h => have h' : ¬ b ≤ a := h; simp [h']
theorem w64 {n : Int} (h0 : -9223372036854775808 ≤ n) (h1 : n ≤ 9223372036854775807) : wrap64 n = n := by
  unfold wrap64; omega

theorem in_eq (a b c : Int) : spec_l1In.f a b c = some (decide (b ≤ a ∧ a ≤ c)) := by
  unfold spec_l1In.f; exact ge_dec a b c

theorem within_eq (a b c : Int) : impl_within.f a b c = some (decide (b ≤ a ∧ a ≤ c)) := by
  unfold impl_within.f; exact ge_dec a b c

section
variable {α β : Type}
theorem ev_pos {c : Prop} [Decidable c] {A B : Nat → Option α} {r : α} (hc : c) (h : Ev A r) : Ev (fun k => if c then A k else B k) r := by simp only [if_pos hc]; exact h
theorem ev_neg {c : Prop} [Decidable c] {A B : Nat → Option α} {r : α} (hc : ¬ c) (h : Ev B r) : Ev (fun k => if c then A k else B k) r := by simp only [if_neg hc]; exact h
theorem ev_ite {c : Prop} [Decidable c] {A B : Nat → Option α} {r : α} (h1 : c → Ev A r) (h2 : ¬ c → Ev B r) : Ev (fun k => if c then A k else B k) r := by
  by_cases hc : c
  · exact ev_pos hc (h1 hc)
  · exact ev_neg hc (h2 hc)
theorem ev_val {x : Option β} {F : Nat → β → Option α} {a : β} {r : α} (hx : x = some a) (h : Ev (fun k => F k a) r) : Ev (fun k => x.bind (F k)) r := by subst hx; exact h
theorem ev_ret {r s : α} (h : r = s) : Ev (fun _ => some r) s := by subst h; exact Ev.now _
theorem ev_of {x : Option α} {r : α} (h : x = some r) : Ev (fun _ => x) r := by subst h; exact Ev.now _
theorem ev_bind {g : Nat → Option β} {F : Nat → β → Option α} {a : β} {r : α} (h : Ev g a) (k : Ev (fun n => F n a) r) : Ev (fun n => (g n).bind (F n)) r := Ev.bind h k
theorem ev_at {g : Nat → Option α} {r : α} (hg : ∀ k, LeO (g k) (g (k + 1))) (k : Nat) (h : g k = some r) : Ev g r := Ev.of hg h
end
theorem ev_eq {α : Type} {g : Nat → Option α} {r s : α} (h : Ev g r) (e : r = s) : Ev g s := e ▸ h
theorem ev_fun {α : Type} {g f : Nat → Option α} {r : α} (h : Ev f r) (e : ∀ k, g k = f k) : Ev g r := Ev.congr e h
theorem ev_unique {α : Type} {g : Nat → Option α} {r s : α} (h : Ev g r) (h' : Ev g s) : r = s := by
  obtain ⟨K, h⟩ := h
  obtain ⟨K', h'⟩ := h'
  have a := h (max K K') (by omega)
  have b := h' (max K K') (by omega)
  rw [a] at b
  exact Option.some.inj b

theorem rd_app (l : List Int) (x : Int) (m : List Int) : rd (l ++ x :: m) (l.length : Int) = x := by simp [rd]
theorem set_app (l : List Int) (x y : Int) (m : List Int) : (l ++ x :: m).set ((l.length : Int).toNat) y = l ++ y :: m := by simp
theorem len_snoc (l : List Int) (x : Int) : (((l ++ [x]).length : Nat) : Int) = (l.length : Int) + 1 := by simp

theorem eqIntS_l0 (p : List Int) : ∀ (a q b : List Int), p.length = q.length → a.length = b.length → (p ++ a).length < 9223372036854775807 → Ev (fun k => laws_eqIntS.l0 k (p ++ a) (q ++ b) p.length) (decide (a = b)) := by
  intro a
  induction a generalizing p with
  | nil =>
    intro q b hpq hab _
    obtain rfl : b = [] := by cases b; rfl; simp at hab
    refine Ev.step (fun k => by rw [laws_eqIntS.l0]) ?_
    refine ev_neg (by simp) (ev_ret (by simp))
  | cons x a ih =>
    intro q b hpq hab hl
    obtain ⟨y, b, rfl⟩ : ∃ y c, b = y :: c := by cases b with | nil => simp at hab | cons y c => exact ⟨y, c, rfl⟩
    refine Ev.step (fun k => by rw [laws_eqIntS.l0]) ?_
    refine ev_pos (by simp; omega) (ev_pos (by omega) (ev_pos (by simp; omega) ?_))
    have e2 : rd (q ++ y :: b) (p.length : Int) = y := by rw [hpq]; exact rd_app q y b
    rw [rd_app, e2]
    by_cases hxy : x = y
    · subst hxy
      refine ev_pos rfl ?_
      have h := ih (p ++ [x]) (q ++ [x]) b (by simp [hpq]) (by simpa using hab) (by simpa using hl)
      rw [w64 (by omega) (by simp at hl; omega)]
      simp only [List.append_assoc, List.singleton_append, List.length_append, List.length_singleton] at h
      have e : decide (x :: a = x :: b) = decide (a = b) := by simp
      rw [e]
      exact h
    · refine ev_neg hxy (ev_ret (by simp [hxy]))
theorem eqIntS_ev (a b : List Int) (hl : a.length < 9223372036854775807) : Ev (fun k => laws_eqIntS.f k a b) (decide (a = b)) := by
  by_cases h : a.length = b.length
  · have h1 := eqIntS_l0 [] a [] b rfl h (by simpa using hl)
    simp only [List.nil_append] at h1
    refine Ev.congr (f := fun k => laws_eqIntS.l0 k a b 0) (fun k => ?_) h1
    unfold laws_eqIntS.f
    simp [h]
  · unfold laws_eqIntS.f
    have hn : ¬ a = b := fun e => h (by rw [e])
    exact ev_neg (by omega) (ev_ret (by simp [hn]))

def upto (m : Int) : Nat → List Int
  | 0 => []
  | n + 1 => m :: upto (m + 1) n
theorem upto_length (m : Int) (n : Nat) : (upto m n).length = n := by induction n generalizing m with | zero => rfl | succ n ih => simp [upto, ih]
theorem markIntS_l0 : ∀ (a p : List Int) (m : Int), (p ++ a).length < 1000000000000000000 → 0 ≤ m → m + a.length < 1000000000000000000 → Ev (fun k => laws_markIntS.l0 k (p ++ a) m p.length) (m + a.length, p ++ upto m a.length) := by
  intro a
  induction a with
  | nil =>
    intro p m hl h0 h1
    refine Ev.step (fun k => by rw [laws_markIntS.l0]) ?_
    exact ev_neg (by simp) (ev_ret (by simp [upto]))
  | cons x a ih =>
    intro p m hl h0 h1
    simp only [List.length_append, List.length_cons, Int.natCast_add, Int.natCast_one] at hl h1 ⊢
    refine Ev.step (fun k => by rw [laws_markIntS.l0]) ?_
    refine ev_pos (by simp; omega) (ev_pos (by omega) ?_)
    rw [set_app, w64 (by omega) (by omega), w64 (by omega) (by omega)]
    have h := ih (p ++ [m]) (m + 1) (by simp; omega) (by omega) (by omega)
    simp only [List.append_assoc, List.singleton_append, List.length_append, List.length_singleton, Int.natCast_add, Int.natCast_one] at h
    refine ev_eq h ?_
    simp only [upto]
    rw [show m + 1 + (a.length : Int) = m + (a.length + 1) by omega]
theorem markIntS_ev (a : List Int) (m : Int) (hl : a.length ≤ 1000000000000) (h0 : 0 ≤ m) (h1 : m ≤ 100000000000000000) : Ev (fun k => laws_markIntS.f k a m) (m + a.length, upto m a.length) := by
  have h := markIntS_l0 a [] m (by simp; omega) h0 (by omega)
  simp only [List.nil_append] at h
  exact h
theorem heldIntS_l0 : ∀ (n : Nat) (p : List Int) (m : Int), p.length + n < 1000000000000000000 → 0 ≤ m → m + n < 1000000000000000000 → Ev (fun k => laws_heldIntS.l0 k (p ++ upto m n) m p.length) (m + n) := by
  intro n
  induction n with
  | zero =>
    intro p m hl h0 h1
    refine Ev.step (fun k => by rw [laws_heldIntS.l0]) ?_
    exact ev_neg (by simp [upto]) (ev_ret (by simp))
  | succ n ih =>
    intro p m hl h0 h1
    simp only [Int.natCast_add, Int.natCast_one] at h1 ⊢
    have eu : upto m (n + 1) = m :: upto (m + 1) n := rfl
    rw [eu]
    refine Ev.step (fun k => by rw [laws_heldIntS.l0]) ?_
    refine ev_pos (by simp [upto_length]; omega) (ev_pos (by omega) ?_)
    rw [rd_app, w64 (by omega) (by omega), w64 (by omega) (by omega)]
    refine ev_pos rfl ?_
    have h := ih (p ++ [m]) (m + 1) (by simp; omega) (by omega) (by omega)
    simp only [List.append_assoc, List.singleton_append, List.length_append, List.length_singleton, Int.natCast_add, Int.natCast_one] at h
    exact ev_eq h (by omega)
theorem heldIntS_ev (n : Nat) (m : Int) (hl : n ≤ 1000000000000) (h0 : 0 ≤ m) (h1 : m ≤ 100000000000000000) : Ev (fun k => laws_heldIntS.f k (upto m n) m) (m + n) := by
  have h := heldIntS_l0 n [] m (by simp; omega) h0 (by omega)
  simp only [List.nil_append] at h
  exact h

theorem ew_in : ∀ n ∈ List.range 5, laws_FnExactExampleWord.f 80 ((n : Int) + 1) = some true := by decide +kernel
theorem ew_s0 : Ev (fun k => spec_ParseWord.f k ⟨#[]⟩) ([], false) := ev_at (spec_ParseWord.mono _) 5 (by decide +kernel)
theorem ew_out (a0 : Int) (h : ¬ (1 ≤ a0 ∧ a0 ≤ 5)) : Ev (fun k => spec_ExampleWord.f k a0) ([], false) ∧ Ev (fun k => impl_ExampleWord.f k a0) ([], false) := by
  refine ⟨?_, ?_⟩
  · unfold spec_ExampleWord.f
    have e : ∀ l : List ByteArray, l.length = 5 → spec_l23Text.f l a0 = some ⟨#[]⟩ := by
      intro l hl
      unfold spec_l23Text.f
      rw [in_eq, hl]
      simp only [Option.bind_some]
      rw [if_neg (by simpa using h)]
    exact ev_val (e _ rfl) (ev_bind ew_s0 (ev_ret rfl))
  · unfold impl_ExampleWord.f
    exact ev_val rfl (ev_val (within_eq _ _ _) (ev_neg (by simpa using h) (ev_ret rfl)))
theorem FnExactExampleWord : laws_FnExactExampleWord.Pure := by
  intro a0 _
  by_cases h : 1 ≤ a0 ∧ a0 ≤ 5
  · refine ⟨80, ?_⟩
    have := ew_in (a0 - 1).toNat (by simp; omega)
    rw [Int.toNat_of_nonneg (by omega)] at this
    rw [show a0 - 1 + 1 = a0 by omega] at this
    exact this
  · apply Ev.rounds
    obtain ⟨h1, h2⟩ := ew_out a0 h
    have he := eqIntS_ev [] [] (by simp)
    have hh := heldIntS_ev 0 1 (by omega) (by omega) (by omega)
    unfold laws_FnExactExampleWord.f
    refine ev_bind h1 (ev_bind h2 (ev_bind he (ev_pos (decide_eq_true rfl) ?_)))
    refine Ev.step (fun k => by rw [laws_FnExactExampleWord.j0]) ?_
    refine ev_neg (by decide) (ev_bind (markIntS_ev [] 1 (by simp) (by omega) (by omega)) (ev_bind hh (ev_neg (by omega) (ev_pos rfl (ev_bind h2 (ev_bind he (ev_pos (decide_eq_true rfl) ?_)))))))
    refine Ev.step (fun k => by rw [laws_FnExactExampleWord.j1]) ?_
    exact ev_neg (by decide) (ev_bind hh (ev_neg (by omega) (ev_pos rfl (ev_ret rfl))))

end Go.Proofs.Ytaamfciheanedaa.Pure
