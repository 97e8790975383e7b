/- The program and the reference agree for all arguments (DividingCuts); no condition. -/
import Derived.Test.YtaamfciheanedaaPFnExactDividingCutsx5
import Derived.Test.YtaamfciheanedaaPureDivCutsAll
namespace Go.Proofs.Ytaamfciheanedaa.Pure
open Go.RowKit Go.Proofs.Ytaamfciheanedaa.PFnExactDividingCuts Go.Proofs.YtaamfciheanedaaW.PrintWords Go.Proofs.YtaamfciheanedaaW.PrintLast Go.Proofs.YtaamfciheanedaaW.PrintMore
set_option linter.unusedVariables false
set_option linter.unusedSimpArgs false

theorem ge_dec (a b c : Int) : (if a ≥ b then some (decide (a ≤ c)) else some false) = some (decide (b ≤ a ∧ a ≤ c)) := by
  split
  · next h => have h' : b ≤ a := h; simp [h']
  · next h => have h' : ¬ b ≤ a := h; simp [h']
theorem w64 {n : Int} (h0 : -9223372036854775808 ≤ n) (h1 : n ≤ 9223372036854775807) : wrap64 n = n := by
  unfold wrap64; omega

theorem in_eq (a b c : Int) : spec_l1In.f a b c = some (decide (b ≤ a ∧ a ≤ c)) := by
  unfold spec_l1In.f; exact ge_dec a b c

theorem within_eq (a b c : Int) : impl_within.f a b c = some (decide (b ≤ a ∧ a ≤ c)) := by
  unfold impl_within.f; exact ge_dec a b c


def isSurf (a b c : Int) : Bool := decide ((0 ≤ a ∧ a ≤ 20) ∧ (0 ≤ b ∧ b ≤ 20) ∧ (0 ≤ c ∧ c ≤ 20) ∧ (a = 0 ∨ b = 0))
theorem isSurf_aux (a b c : Int) : ((some (decide (0 ≤ a ∧ a ≤ 20))).bind fun t1 => (if t1 = true then ((some (decide (0 ≤ b ∧ b ≤ 20))).bind fun t2 => (if t2 = true then ((some (decide (0 ≤ c ∧ c ≤ 20))).bind fun t3 => (if t3 = true then (if a = 0 then (some true) else (some (b == 0))) else (some false))) else (some false))) else (some false))) = some (isSurf a b c) := by
  unfold isSurf
  simp only [Option.bind_some, decide_eq_true_eq]
  by_cases h1 : 0 ≤ a ∧ a ≤ 20
  · rw [if_pos h1]
    by_cases h2 : 0 ≤ b ∧ b ≤ 20
    · rw [if_pos h2]
      by_cases h3 : 0 ≤ c ∧ c ≤ 20
      · rw [if_pos h3]
        by_cases h4 : a = 0
        · rw [if_pos h4]; simp [h1, h2, h3, h4]
        · rw [if_neg h4]
          by_cases h5 : b = 0
          · subst h5; simp [h1, h3]
          · simp [h4, h5]
      · rw [if_neg h3]; simp [h3]
    · rw [if_neg h2]; simp [h2]
  · rw [if_neg h1]; simp [h1]
theorem sIsSurface (a b c : Int) : spec_IsSurface.f a b c = some (isSurf a b c) := by
  unfold spec_IsSurface.f; rw [in_eq, in_eq, in_eq]; exact isSurf_aux a b c
theorem iIsSurface (a b c : Int) : impl_IsSurface.f a b c = some (isSurf a b c) := by
  unfold impl_IsSurface.f; rw [within_eq, within_eq, within_eq]; exact isSurf_aux a b c
theorem isSurf_bd {a b c : Int} (h : isSurf a b c = true) : (0 ≤ a ∧ a ≤ 20) ∧ (0 ≤ b ∧ b ≤ 20) ∧ (0 ≤ c ∧ c ≤ 20) ∧ (a = 0 ∨ b = 0) := by
  unfold isSurf at h; exact of_decide_eq_true h

theorem sFits_no (a b c : Int) (h : ¬ (isSurf a b c = true ∧ b = 0)) : spec_l21Fits.f a b c = some false := by
  unfold spec_l21Fits.f
  rw [sIsSurface, Option.bind_some]
  by_cases e : isSurf a b c = true
  · rw [if_pos e]
    have : b ≠ 0 := fun e2 => h ⟨e, e2⟩
    simp [this]
  · rw [if_neg e]
theorem iPlain_no (a b c : Int) (h : ¬ (isSurf a b c = true ∧ b = 0)) : impl_isPlain.f a b c = some false := by
  unfold impl_isPlain.f
  rw [iIsSurface, Option.bind_some]
  by_cases e : isSurf a b c = true
  · rw [if_pos e]
    have : b ≠ 0 := fun e2 => h ⟨e, e2⟩
    simp [this]
  · rw [if_neg e]
theorem dc_all (a c : Nat) (ha : a < 21) (hc : c < 21) : laws_FnExactDividingCuts.f 2500 (a : Int) 0 (c : Int) = some true := by
  have hc := List.mem_range.2 hc
  match a, ha with
  | 0, _ => exact dc_0 c hc
  | 1, _ => exact dc_1 c hc
  | 2, _ => exact dc_2 c hc
  | 3, _ => exact dc_3 c hc
  | 4, _ => exact dc_4 c hc
  | 5, _ => exact dc_5 c hc
  | 6, _ => exact dc_6 c hc
  | 7, _ => exact dc_7 c hc
  | 8, _ => exact dc_8 c hc
  | 9, _ => exact dc_9 c hc
  | 10, _ => exact dc_10 c hc
  | 11, _ => exact dc_11 c hc
  | 12, _ => exact dc_12 c hc
  | 13, _ => exact dc_13 c hc
  | 14, _ => exact dc_14 c hc
  | 15, _ => exact dc_15 c hc
  | 16, _ => exact dc_16 c hc
  | 17, _ => exact dc_17 c hc
  | 18, _ => exact dc_18 c hc
  | 19, _ => exact dc_19 c hc
  | 20, _ => exact dc_20 c hc
  | n + 21, h => omega
theorem FnExactDividingCuts : ∀ (a0_0 : Int) (a0_1 : Int) (a0_2 : Int), (Lit.int .i64 a0_0).wf = true → (Lit.int .i64 a0_1).wf = true → (Lit.int .i64 a0_2).wf = true → ∃ k, laws_FnExactDividingCuts.f k a0_0 a0_1 a0_2 = some true := by
  intro a b c _ _ _
  refine ⟨2500, ?_⟩
  by_cases h : isSurf a b c = true ∧ b = 0
  · obtain ⟨h1, rfl⟩ := h
    obtain ⟨h2, _, h3, _⟩ := isSurf_bd h1
    have h4 := dc_all a.toNat c.toNat (by omega) (by omega)
    rwa [show (a.toNat : Int) = a by omega, show (c.toNat : Int) = c by omega] at h4
  · have s1 : spec_DividingCuts.f 2500 a b c = some [] := by
      unfold spec_DividingCuts.f
      rw [spec_DividingCuts.l0, sFits_no a b c h, Option.bind_some, if_neg (by decide), spec_DividingCuts.j1, if_neg (by decide)]
    have s2 : impl_DividingCuts.f 2500 a b c = some [] := by
      unfold impl_DividingCuts.f
      rw [iPlain_no a b c h, Option.bind_some, if_neg (by decide)]
    unfold laws_FnExactDividingCuts.f
    rw [s1, s2]
    decide +kernel

end Go.Proofs.Ytaamfciheanedaa.Pure
