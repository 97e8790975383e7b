/- The program's CompleteGenus returns what the reference's returns, for all arguments; no condition. -/
import Derived.Test.YtgecopddbegaaaaPFnExactCompleteGenusx1
namespace Go.Proofs.Ytgecopddbegaaaa.Pure
open Go.RowKit Go.Proofs.Ytgecopddbegaaaa.PFnExactCompleteGenus Go.Proofs.YtgecopddbegaaaaW.PrintWords Go.Proofs.YtgecopddbegaaaaW.PrintLast Go.Proofs.YtgecopddbegaaaaW.PrintMore
set_option linter.unusedVariables false
set_option linter.unusedSimpArgs false

theorem ge_dec (a b c : Int) : (if a ≥ b then some (decide (a ≤ c)) else some false) = some (decide (b ≤ a ∧ a ≤ c)) := by
  split
  · next h => have h' : b ≤ a := h; simp [h']
  · next h => have h' : ¬ b ≤ a := h; simp [h']
theorem in_eq (a b c : Int) : spec_l1In.f a b c = some (decide (b ≤ a ∧ a ≤ c)) := by
  unfold spec_l1In.f; exact ge_dec a b c
theorem within_eq (a b c : Int) : impl_within.f a b c = some (decide (b ≤ a ∧ a ≤ c)) := by
  unfold impl_within.f; exact ge_dec a b c
theorem w64 {n : Int} (h0 : -9223372036854775808 ≤ n) (h1 : n ≤ 9223372036854775807) : wrap64 n = n := by
  unfold wrap64; omega

theorem cgenus_eq (n : Int) : impl_CompleteGenus.f n = spec_CompleteGenus.f n := by
  unfold impl_CompleteGenus.f spec_CompleteGenus.f
  rw [in_eq, within_eq]
theorem cgenus_some (n : Int) : ∃ r, spec_CompleteGenus.f n = some r := by
  unfold spec_CompleteGenus.f
  rw [in_eq]; simp only [Option.bind_some]; repeat (first | exact ⟨_, rfl⟩ | split)

theorem FnExactCompleteGenus : laws_FnExactCompleteGenus.Pure := by
  intro a0 _
  unfold laws_FnExactCompleteGenus.f
  obtain ⟨r, h⟩ := cgenus_some a0
  rw [cgenus_eq, h]; simp

end Go.Proofs.Ytgecopddbegaaaa.Pure
