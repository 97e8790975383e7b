/- The program and the reference agree for all arguments (WithCrosscap); no condition. -/
import Derived.Test.YtaamfciheanedaaPFnExactWithCrosscapx2
namespace Go.Proofs.Ytaamfciheanedaa.Pure
open Go.RowKit Go.Proofs.Ytaamfciheanedaa.PFnExactWithCrosscap Go.Proofs.YtaamfciheanedaaW.PrintWords Go.Proofs.YtaamfciheanedaaW.PrintLast Go.Proofs.YtaamfciheanedaaW.PrintMore
set_option linter.unusedVariables false
set_option linter.unusedSimpArgs false

theorem ge_dec (a b c : Int) : (if a ≥ b then some (decide (a ≤ c)) else some false) = some (decide (b ≤ a ∧ a ≤ c)) := by
  split
  · next h => have h' : b ≤ a := h; simp [h']
  · next h => have h' : ¬ b ≤ a := h; simp [h']
theorem in_eq (a b c : Int) : spec_l1In.f a b c = some (decide (b ≤ a ∧ a ≤ c)) := by
  unfold spec_l1In.f; exact ge_dec a b c
theorem within_eq (a b c : Int) : impl_within.f a b c = some (decide (b ≤ a ∧ a ≤ c)) := by
  unfold impl_within.f; exact ge_dec a b c
theorem w64 {n : Int} (h0 : -9223372036854775808 ≤ n) (h1 : n ≤ 9223372036854775807) : wrap64 n = n := by
  unfold wrap64; omega

def isSurf (a b c : Int) : Bool := decide ((0 ≤ a ∧ a ≤ 20) ∧ (0 ≤ b ∧ b ≤ 20) ∧ (0 ≤ c ∧ c ≤ 20) ∧ (a = 0 ∨ b = 0))
theorem isSurf_aux (a b c : Int) : ((some (decide (0 ≤ a ∧ a ≤ 20))).bind fun t1 => (if t1 = true then ((some (decide (0 ≤ b ∧ b ≤ 20))).bind fun t2 => (if t2 = true then ((some (decide (0 ≤ c ∧ c ≤ 20))).bind fun t3 => (if t3 = true then (if a = 0 then (some true) else (some (b == 0))) else (some false))) else (some false))) else (some false))) = some (isSurf a b c) := by
  unfold isSurf
  simp only [Option.bind_some, decide_eq_true_eq]
  by_cases h1 : 0 ≤ a ∧ a ≤ 20
  · rw [if_pos h1]
    by_cases h2 : 0 ≤ b ∧ b ≤ 20
    · rw [if_pos h2]
      by_cases h3 : 0 ≤ c ∧ c ≤ 20
      · rw [if_pos h3]
        by_cases h4 : a = 0
        · rw [if_pos h4]; simp [h1, h2, h3, h4]
        · rw [if_neg h4]
          by_cases h5 : b = 0
          · subst h5; simp [h1, h3]
          · simp [h4, h5]
      · rw [if_neg h3]; simp [h3]
    · rw [if_neg h2]; simp [h2]
  · rw [if_neg h1]; simp [h1]
theorem sIsSurface (a b c : Int) : spec_IsSurface.f a b c = some (isSurf a b c) := by
  unfold spec_IsSurface.f; rw [in_eq, in_eq, in_eq]; exact isSurf_aux a b c
theorem iIsSurface (a b c : Int) : impl_IsSurface.f a b c = some (isSurf a b c) := by
  unfold impl_IsSurface.f; rw [within_eq, within_eq, within_eq]; exact isSurf_aux a b c
theorem isSurf_bd {a b c : Int} (h : isSurf a b c = true) : (0 ≤ a ∧ a ≤ 20) ∧ (0 ≤ b ∧ b ≤ 20) ∧ (0 ≤ c ∧ c ≤ 20) ∧ (a = 0 ∨ b = 0) := by
  unfold isSurf at h; exact of_decide_eq_true h

def right4 (a b c : Int) : Int × Int × Int × Bool := if isSurf a b c = true then (a, b, c, true) else (0, 0, 0, false)
theorem eqSurf (a b c : Int) : laws_eqSurface.f a b c a b c = some true := by unfold laws_eqSurface.f; simp

theorem sRight (a b c : Int) : spec_l4Right.f a b c = some (right4 a b c) := by
  unfold spec_l4Right.f right4; rw [sIsSurface]; simp only [Option.bind_some]; split <;> rfl

theorem iTold (a b c : Int) : impl_told.f a b c = some (right4 a b c) := by
  unfold impl_told.f right4; rw [iIsSurface]; simp only [Option.bind_some]; split <;> rfl

def sumS (a b c d e f : Int) : Int × Int × Int × Bool :=
  if isSurf a b c = true then (if isSurf d e f = true then (if wrap64 (b + e) > 0 then right4 0 (wrap64 (wrap64 (b + e) + wrap64 (2 * wrap64 (a + d)))) (wrap64 (c + f)) else right4 (wrap64 (a + d)) 0 (wrap64 (c + f))) else (0, 0, 0, false)) else (0, 0, 0, false)

theorem specSum (k : Nat) (a b c d e f : Int) : spec_SumSurface.f (k + 1) a b c d e f = some (sumS a b c d e f) := by
  unfold spec_SumSurface.f sumS
  simp only [sIsSurface, Option.bind_some, spec_SumSurface.j0, sRight]
  cases isSurf a b c <;> cases isSurf d e f <;> simp
  split <;> rfl

theorem implSum (k : Nat) (a b c d e f : Int) : impl_SumSurface.f (k + 1) a b c d e f = some (sumS a b c d e f) := by
  unfold impl_SumSurface.f sumS
  simp only [iIsSurface, Option.bind_some, impl_SumSurface.j0, iTold]
  cases isSurf a b c <;> cases isSurf d e f <;> simp
  split <;> rfl

theorem FnExactWithCrosscap : ∀ (a0_0 : Int) (a0_1 : Int) (a0_2 : Int), (Lit.int .i64 a0_0).wf = true → (Lit.int .i64 a0_1).wf = true → (Lit.int .i64 a0_2).wf = true → ∃ k, laws_FnExactWithCrosscap.f k a0_0 a0_1 a0_2 = some true := by
  intro a b c _ _ _
  refine ⟨1, ?_⟩
  obtain ⟨⟨x, y, z, t⟩, h⟩ : ∃ r, sumS a b c 0 1 0 = r := ⟨_, rfl⟩
  unfold laws_FnExactWithCrosscap.f laws_toSurface.f spec_WithCrosscap.f impl_WithCrosscap.f
  simp only [Option.bind_some, specSum, implSum, h, eqSurf]
  simp

end Go.Proofs.Ytaamfciheanedaa.Pure
