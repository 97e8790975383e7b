/- The program and the reference agree for all arguments (SimpleWords); no condition. -/
import Derived.Test.YtaamfciheanedaaPFnExactSimpleWordsx4
namespace Go.Proofs.Ytaamfciheanedaa.Pure
open Go.RowKit Go.Proofs.Ytaamfciheanedaa.PFnExactSimpleWords Go.Proofs.YtaamfciheanedaaW.PrintWords Go.Proofs.YtaamfciheanedaaW.PrintLast Go.Proofs.YtaamfciheanedaaW.PrintMore
set_option linter.unusedVariables false
set_option linter.unusedSimpArgs false

theorem FnExactSimpleWords_in : ∀ i ∈ List.range 24, laws_FnExactSimpleWords.f 120 ((i : Int) + 1) = some true := by decide +kernel
theorem FnExactSimpleWords : ∀ (a0 : Int), (Lit.int .i64 a0).wf = true → ∃ k, laws_FnExactSimpleWords.f k a0 = some true := by
  intro a0 _
  refine ⟨120, ?_⟩
  by_cases h : 1 ≤ a0 ∧ a0 ≤ 24
  · have h1 := FnExactSimpleWords_in (a0 - 1).toNat (by rw [List.mem_range]; omega)
    rwa [show ((a0 - 1).toNat : Int) + 1 = a0 by omega] at h1
  · have e1 : spec_l1In.f a0 1 24 = some false := by
      unfold spec_l1In.f
      by_cases c : a0 ≥ 1
      · rw [if_pos c, decide_eq_false (by omega)]
      · rw [if_neg c]
    have e2 : impl_within.f a0 1 24 = some false := by
      unfold impl_within.f
      by_cases c : a0 ≥ 1
      · rw [if_pos c, decide_eq_false (by omega)]
      · rw [if_neg c]
    have s1 : spec_SimpleWords.f 120 a0 = some [] := by
      unfold spec_SimpleWords.f
      rw [Option.bind_some, e1]
      rfl
    have s2 : impl_SimpleWords.f 120 a0 = some [] := by
      unfold impl_SimpleWords.f
      rw [e2]
      rfl
    unfold laws_FnExactSimpleWords.f
    rw [s1, s2]
    decide +kernel

end Go.Proofs.Ytaamfciheanedaa.Pure
