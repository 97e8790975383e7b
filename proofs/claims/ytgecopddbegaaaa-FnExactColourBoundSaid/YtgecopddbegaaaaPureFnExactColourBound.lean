/- The program and the reference agree for all arguments (ColourBound); no condition. -/
import Derived.Test.YtgecopddbegaaaaPFnExactColourBoundx1
namespace Go.Proofs.Ytgecopddbegaaaa.Pure
open Go.RowKit Go.Proofs.Ytgecopddbegaaaa.PFnExactColourBound Go.Proofs.YtgecopddbegaaaaW.PrintWords Go.Proofs.YtgecopddbegaaaaW.PrintLast Go.Proofs.YtgecopddbegaaaaW.PrintMore
set_option linter.unusedVariables false
set_option linter.unusedSimpArgs false

theorem ge_dec (a b c : Int) : (if a ≥ b then some (decide (a ≤ c)) else some false) = some (decide (b ≤ a ∧ a ≤ c)) := by
  split
  · next h => have h' : b ≤ a := h; simp [h']
  · next h => have h' : ¬ b ≤ a := h; simp [h']
theorem in_eq (a b c : Int) : spec_l1In.f a b c = some (decide (b ≤ a ∧ a ≤ c)) := by
  unfold spec_l1In.f; exact ge_dec a b c
theorem within_eq (a b c : Int) : impl_within.f a b c = some (decide (b ≤ a ∧ a ≤ c)) := by
  unfold impl_within.f; exact ge_dec a b c
theorem w64 {n : Int} (h0 : -9223372036854775808 ≤ n) (h1 : n ≤ 9223372036854775807) : wrap64 n = n := by
  unfold wrap64; omega

def isSurf (a b c : Int) : Bool := decide ((0 ≤ a ∧ a ≤ 20) ∧ (0 ≤ b ∧ b ≤ 20) ∧ (0 ≤ c ∧ c ≤ 20) ∧ (a = 0 ∨ b = 0))
theorem isSurf_aux (a b c : Int) : ((some (decide (0 ≤ a ∧ a ≤ 20))).bind fun t1 => (if t1 = true then ((some (decide (0 ≤ b ∧ b ≤ 20))).bind fun t2 => (if t2 = true then ((some (decide (0 ≤ c ∧ c ≤ 20))).bind fun t3 => (if t3 = true then (if a = 0 then (some true) else (some (b == 0))) else (some false))) else (some false))) else (some false))) = some (isSurf a b c) := by
  unfold isSurf
  simp only [Option.bind_some, decide_eq_true_eq]
  by_cases h1 : 0 ≤ a ∧ a ≤ 20
  · rw [if_pos h1]
    by_cases h2 : 0 ≤ b ∧ b ≤ 20
    · rw [if_pos h2]
      by_cases h3 : 0 ≤ c ∧ c ≤ 20
      · rw [if_pos h3]
        by_cases h4 : a = 0
        · rw [if_pos h4]; simp [h1, h2, h3, h4]
        · rw [if_neg h4]
          by_cases h5 : b = 0
          · subst h5; simp [h1, h3]
          · simp [h4, h5]
      · rw [if_neg h3]; simp [h3]
    · rw [if_neg h2]; simp [h2]
  · rw [if_neg h1]; simp [h1]
theorem sIsSurface (a b c : Int) : spec_IsSurface.f a b c = some (isSurf a b c) := by
  unfold spec_IsSurface.f; rw [in_eq, in_eq, in_eq]; exact isSurf_aux a b c
theorem iIsSurface (a b c : Int) : impl_IsSurface.f a b c = some (isSurf a b c) := by
  unfold impl_IsSurface.f; rw [within_eq, within_eq, within_eq]; exact isSurf_aux a b c
theorem isSurf_bd {a b c : Int} (h : isSurf a b c = true) : (0 ≤ a ∧ a ≤ 20) ∧ (0 ≤ b ∧ b ≤ 20) ∧ (0 ≤ c ∧ c ≤ 20) ∧ (a = 0 ∨ b = 0) := by
  unfold isSurf at h; exact of_decide_eq_true h

theorem cb_all : ∀ a ∈ List.range 21, ∀ b ∈ List.range 21, (a = 0 ∨ b = 0) → laws_FnExactColourBound.f 30 (a : Int) (b : Int) 0 = some true := by decide +kernel
theorem FnExactColourBound : ∀ (a0_0 : Int) (a0_1 : Int) (a0_2 : Int), (Lit.int .i64 a0_0).wf = true → (Lit.int .i64 a0_1).wf = true → (Lit.int .i64 a0_2).wf = true → ∃ k, laws_FnExactColourBound.f k a0_0 a0_1 a0_2 = some true := by
  intro a b c _ _ _
  refine ⟨30, ?_⟩
  by_cases h : isSurf a b c = true
  · have hb := isSurf_bd h
    by_cases hc : c = 0
    · subst hc
      have := cb_all a.toNat (by simp; omega) b.toNat (by simp; omega) (by omega)
      rw [Int.toNat_of_nonneg (by omega), Int.toNat_of_nonneg (by omega)] at this
      exact this
    · unfold laws_FnExactColourBound.f laws_toSurface.f spec_ColourBound.f impl_ColourBound.f
      simp only [Option.bind_some]
      rw [sIsSurface, iIsSurface, h]
      have hc' : c > 0 := by omega
      simp [hc', spec_ColourBound.j0, impl_ColourBound.j0]
  · have h' : isSurf a b c = false := by simpa using h
    unfold laws_FnExactColourBound.f laws_toSurface.f spec_ColourBound.f impl_ColourBound.f
    simp only [Option.bind_some]
    rw [sIsSurface, iIsSurface, h']
    simp [spec_ColourBound.j0, impl_ColourBound.j0]

end Go.Proofs.Ytgecopddbegaaaa.Pure
