/- The program's CompleteColours returns what the reference's returns, for all arguments; no condition. -/
import Derived.Test.YtgecopddbegaaaaPFnExactCompleteColoursx1
namespace Go.Proofs.Ytgecopddbegaaaa.Pure
open Go.RowKit Go.Proofs.Ytgecopddbegaaaa.PFnExactCompleteColours Go.Proofs.YtgecopddbegaaaaW.PrintWords Go.Proofs.YtgecopddbegaaaaW.PrintLast Go.Proofs.YtgecopddbegaaaaW.PrintMore
set_option linter.unusedVariables false
set_option linter.unusedSimpArgs false

theorem ge_dec (a b c : Int) : (if a ≥ b then some (decide (a ≤ c)) else some false) = some (decide (b ≤ a ∧ a ≤ c)) := by
  split
  · next h => have h' : b ≤ a := h; simp [h']
  · next h => have h' : ¬ b ≤ a := h; simp [h']
theorem in_eq (a b c : Int) : spec_l1In.f a b c = some (decide (b ≤ a ∧ a ≤ c)) := by
  unfold spec_l1In.f; exact ge_dec a b c
theorem within_eq (a b c : Int) : impl_within.f a b c = some (decide (b ≤ a ∧ a ≤ c)) := by
  unfold impl_within.f; exact ge_dec a b c
theorem w64 {n : Int} (h0 : -9223372036854775808 ≤ n) (h1 : n ≤ 9223372036854775807) : wrap64 n = n := by
  unfold wrap64; omega

theorem cgenus_eq (n : Int) : impl_CompleteGenus.f n = spec_CompleteGenus.f n := by
  unfold impl_CompleteGenus.f spec_CompleteGenus.f
  rw [in_eq, within_eq]
theorem cgenus_some (n : Int) : ∃ r, spec_CompleteGenus.f n = some r := by
  unfold spec_CompleteGenus.f
  rw [in_eq]; simp only [Option.bind_some]; repeat (first | exact ⟨_, rfl⟩ | split)

theorem ccol_loop (x : Int) (d : Nat) : ∀ (k : Nat) (o i : Int), 1 ≤ i → 51 - i ≤ d → d < k → ∃ r, spec_CompleteColours.l0 k x o i = some r ∧ impl_CompleteColours.l0 k x o i = some r := by
  induction d with
  | zero =>
    intro k o i h1 hd hk
    obtain ⟨k, rfl⟩ : ∃ m, k = m + 1 := ⟨k - 1, by omega⟩
    refine ⟨o, ?_, ?_⟩
    · simp only [spec_CompleteColours.l0]; rw [if_neg (by omega)]
    · simp only [impl_CompleteColours.l0]; rw [if_neg (by omega)]
  | succ d ih =>
    intro k o i h1 hd hk
    obtain ⟨k, rfl⟩ : ∃ m, k = m + 1 := ⟨k - 1, by omega⟩
    by_cases hi : i ≤ 50
    · obtain ⟨g, hg⟩ := cgenus_some i
      simp only [spec_CompleteColours.l0, impl_CompleteColours.l0]
      rw [if_pos hi, if_pos hi, cgenus_eq, hg]
      simp only [Option.bind_some]
      rw [w64 (n := i + 1) (by omega) (by omega)]
      split
      · exact ih k i (i + 1) (by omega) (by omega) (by omega)
      · exact ih k o (i + 1) (by omega) (by omega) (by omega)
    · refine ⟨o, ?_, ?_⟩
      · simp only [spec_CompleteColours.l0]; rw [if_neg hi]
      · simp only [impl_CompleteColours.l0]; rw [if_neg hi]
theorem FnExactCompleteColours : laws_FnExactCompleteColours.Pure := by
  intro a0 _
  refine ⟨100, ?_⟩
  unfold laws_FnExactCompleteColours.f spec_CompleteColours.f impl_CompleteColours.f
  rw [in_eq, within_eq]
  simp only [Option.bind_some]
  split
  · obtain ⟨r, h1, h2⟩ := ccol_loop a0 50 100 1 1 (by omega) (by omega) (by omega)
    rw [h1, h2]; simp
  · simp

end Go.Proofs.Ytgecopddbegaaaa.Pure
