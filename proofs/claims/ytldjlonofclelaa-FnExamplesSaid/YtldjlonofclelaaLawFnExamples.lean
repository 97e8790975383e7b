/- The row of FnExamples: for all arguments the law returns true and leaves its arguments alone; no condition. -/
import Derived.Test.YtldjlonofclelaaRows
import Derived.Test.YtldjlonofclelaaFnFnExamples6
import Derived.WalkKit
import Derived.ProofKit
import Derived.OpenShut
import Derived.ShutString
import Derived.ChangeOld
import Derived.Below
import Derived.SizedLaws
import Derived.Lib.SmallJoins
import Derived.Carry
import Derived.Deep.Slices
namespace Go.Proofs.Ytldjlonofclelaa.fnExamples
open Go.ChangeShapes Go.WideShapes Go.ChangeAt Go.RowKit
open Go.ChangeMaps (open_string shut_string)
open Go.Proofs.YtldjlonofclelaaVe Go.Proofs.YtldjlonofclelaaTv
set_option linter.unusedVariables false
theorem own : ownKnob Try.prog.godebug = none := by kernel_rfl
theorem laidOut : laidOutB Try.prog = true := by kernel_rfl
set_option maxRecDepth 100000 in
theorem lifted (os : Os) (started : os.Started) (H : Type) (enc : TypeId × Value → H) :
    ReturnsInHanded {} Try.checked os 3 .any (Rows.fnExamplesSpec.pre6 enc Try.prog Try.f3 Rows.fnExamplesRow.domain false) (Rows.fnExamplesSpec.post enc Try.prog Try.f3 false true false false) := by
  refine returnsInHanded_of_change_sized (C := Try.checked) own started (by kernel_rfl) Try.func3
    (ChangeSpec.witness6 (enc := enc) (C := Try.checked) false ⟨#[], #[.slice none 0 0], []⟩ 8 (by kernel_rfl) (by kernel_rfl) (by kernel_rfl) (by kernel_rfl)) ?_
  intro W base args ds gs before hval0 hW hcnd hsz0 _
  have hsz : (DataW.weightsEach Try.prog (Try.f3.params.toList ++ Rows.fnExamplesSpec.plain.varTypes Try.prog) (ds ++ gs)).all (· ≤ reachBytes) = true := hsz0
  have hval : ∀ (j : Nat) t v, Try.f3.params[j]? = some t → args[j]? = some v → Value.okWide Try.prog W .any base t v := hval0
  have hW' := hW
  obtain ⟨p, q, hA0, hV, rfl, hfz, hnd⟩ := hW
  have hA : DataW.TrodAll enc Try.prog W 0 (fun _ => true) true Try.f3.params.toList args.toList ds p := hA0
  rw [Try.params3] at hA hval hsz
  obtain ⟨v0, vs0, d0, ds0, p0, q0, hargs, rfl, rfl, h0, r0⟩ := trodAll_cons hA
  obtain ⟨rfl, rfl, rfl⟩ := trodAll_nil r0
  obtain rfl : args = #[v0] := by cases args; simp_all
  obtain ⟨rfl, rfl⟩ := trodVars_none hV
  have hw : ∀ (j : Nat) t d, ([22] : List TypeId)[j]? = some t → ([d0] : List (DataW H))[j]? = some d → ∀ k ∈ d.weights Try.prog t, k ≤ reachBytes := fun j t d h1 h2 k hk => by
    have h3 : ∀ (X Y : List TypeId) (Z : List (DataW H)) j, X[j]? = some t → (X ++ Y)[j]? = some t := fun X Y _ j h => by rw [List.getElem?_append_left (List.getElem?_eq_some_iff.1 h).1]; exact h
    have h4 : ∀ (X Y : List (DataW H)) j, X[j]? = some d → (X ++ Y)[j]? = some d := fun X Y j h => by rw [List.getElem?_append_left (List.getElem?_eq_some_iff.1 h).1]; exact h
    have h5 := List.all_eq_true.1 hsz k (DataW.weights_mem_each (h3 _ _ [] j h1) (h4 _ _ j h2) k hk)
    simpa using h5
  have k0 := h0
  have lt0 : ∀ x ∈ p0, x.block < W.heap.size := by obtain ⟨m, hm⟩ := k0; exact DataW.trod_lt m _ _ _ hm
  obtain ⟨b0, len0, cap0, rfl⟩ := okWide_slice Try.underlying22 (hval 0 22 v0 rfl rfl)
  obtain ⟨fuel0, hf0⟩ := h0
  obtain ⟨x0, hx0, hg0⟩ := (opens_slice (b := 1) Try.underlying22 (by kernel_rfl) (by decide) (by kernel_rfl) (by decide) (opens_int Try.underlying5) : Opens enc Try.prog W 0 (fun _ => true) true 22 (.list (.int .u8))) fuel0 [.slice b0 len0 cap0] _ rfl (by simpa [Value.cells] using hf0) (hw 0 22 _ rfl rfl)
  obtain ⟨t0, fr0, vt0⟩ := hx0.one
  clear hA0 hval0 hsz0 hsz
  refine (law_door (FnExamples x0 hx0.len) (show sideT _ from trivial) (Nat.zero_le _) (.cons _ _ _ _ fr0 .nil) (.cons _ _ _ _ (vt0 _ _) .nil)).mono fun e W' ⟨he, bel⟩ => ?_
  subst he
  exact ⟨_, rfl, _, _, _, [], _, [], hW', trodAll_mk1 (shut_bool Try.underlying4 _), (trodAll_cons_mk (Below.trod laidOut (by kernel_rfl) (of_decide_eq_true (by kernel_rfl)) k0 bel lt0) trodAll_mk0), rfl, bel.frame _, fun h => by cases h⟩
theorem over : Rows.fnExamplesRow.holds Try.pinned (OpenSpec.ofChange Rows.fnExamplesSpec) :=
  OpenClaim.holds_of_wide 3 Try.f3 rfl rfl rfl rfl rfl rfl rfl ⟨rfl, rfl, rfl, rfl, rfl⟩ rfl rfl rfl rfl rfl (by kernel_rfl) Try.func3 (by kernel_rfl)
    (of_decide_eq_true (by kernel_rfl)) (by unfold Func.isWrapper; first | (rw [if_pos (by decide +kernel)]; kernel_rfl) | (rw [if_neg (by decide +kernel)]; exact ⟨rfl, rfl⟩))
    (fun os started H enc _ => lifted os started H enc)
theorem proved : Rows.FnExamplesSaid := over
#print axioms proved
end Go.Proofs.Ytldjlonofclelaa.fnExamples
namespace Go.Proofs.Ytldjlonofclelaa
/-- The row, under a short name, for the claim. -/
theorem fnExamples_holds : Rows.FnExamplesSaid := fnExamples.proved
end Go.Proofs.Ytldjlonofclelaa
