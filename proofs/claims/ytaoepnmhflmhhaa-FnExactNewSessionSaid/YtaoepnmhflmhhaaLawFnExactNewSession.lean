/- The row of FnExactNewSession: for all arguments the law returns true and leaves its arguments alone; no condition. -/
import Derived.Test.YtaoepnmhflmhhaaRows
import Derived.Test.YtaoepnmhflmhhaaFnFnExactNewSession2
import Derived.WalkKit
import Derived.ProofKit
import Derived.OpenShut
import Derived.ShutString
import Derived.ChangeOld
import Derived.Below
import Derived.SizedLaws
import Derived.Lib.SmallJoins
import Derived.Carry
import Derived.Deep.Slices
namespace Go.Proofs.Ytaoepnmhflmhhaa.fnExactNewSession
open Go.ChangeShapes Go.WideShapes Go.ChangeAt Go.RowKit
open Go.ChangeMaps (open_string shut_string)
open Go.Proofs.YtaoepnmhflmhhaaVe Go.Proofs.YtaoepnmhflmhhaaTv
set_option linter.unusedVariables false
theorem own : ownKnob Try.prog.godebug = none := by kernel_rfl
theorem laidOut : laidOutB Try.prog = true := by kernel_rfl
set_option maxRecDepth 100000 in
theorem lifted (os : Os) (started : os.Started) (H : Type) (enc : TypeId × Value → H) :
    ReturnsInHanded {} Try.checked os 6 .any (Rows.fnExactNewSessionSpec.pre6 enc Try.prog Try.f6 Rows.fnExactNewSessionRow.domain false) (Rows.fnExactNewSessionSpec.post enc Try.prog Try.f6 false true false false) := by
  refine returnsInHanded_of_change_sized (C := Try.checked) own started (by kernel_rfl) Try.func6
    (ChangeSpec.witness6 (enc := enc) (C := Try.checked) false ⟨#[], #[], []⟩ 8 (by kernel_rfl) (by kernel_rfl) (by kernel_rfl) (by kernel_rfl)) ?_
  intro W base args ds gs before hval0 hW hcnd hsz0 _
  have hsz : (DataW.weightsEach Try.prog (Try.f6.params.toList ++ Rows.fnExactNewSessionSpec.plain.varTypes Try.prog) (ds ++ gs)).all (· ≤ reachBytes) = true := hsz0
  have hval : ∀ (j : Nat) t v, Try.f6.params[j]? = some t → args[j]? = some v → Value.okWide Try.prog W .any base t v := hval0
  have hW' := hW
  obtain ⟨p, q, hA0, hV, rfl, hfz, hnd⟩ := hW
  have hA : DataW.TrodAll enc Try.prog W 0 (fun _ => true) true Try.f6.params.toList args.toList ds p := hA0
  rw [Try.params6] at hA hval hsz
  obtain ⟨hargs, rfl, rfl⟩ := trodAll_nil hA
  obtain rfl : args = #[] := by cases args; simp_all
  obtain ⟨rfl, rfl⟩ := trodVars_none hV
  have hw : ∀ (j : Nat) t d, ([] : List TypeId)[j]? = some t → ([] : List (DataW H))[j]? = some d → ∀ k ∈ d.weights Try.prog t, k ≤ reachBytes := fun j t d h1 h2 k hk => by
    have h3 : ∀ (X Y : List TypeId) (Z : List (DataW H)) j, X[j]? = some t → (X ++ Y)[j]? = some t := fun X Y _ j h => by rw [List.getElem?_append_left (List.getElem?_eq_some_iff.1 h).1]; exact h
    have h4 : ∀ (X Y : List (DataW H)) j, X[j]? = some d → (X ++ Y)[j]? = some d := fun X Y j h => by rw [List.getElem?_append_left (List.getElem?_eq_some_iff.1 h).1]; exact h
    have h5 := List.all_eq_true.1 hsz k (DataW.weights_mem_each (h3 _ _ [] j h1) (h4 _ _ j h2) k hk)
    simpa using h5
  clear hA0 hval0 hsz0 hsz
  refine (law_door (lawNewSession ) .nil .nil).mono fun e W' ⟨he, bel⟩ => ?_
  subst he
  exact ⟨_, rfl, _, _, _, [], _, [], hW', trodAll_mk1 (shut_bool Try.underlying4 _), trodAll_mk0, rfl, bel.frame _, fun h => by cases h⟩
theorem over : Rows.fnExactNewSessionRow.holds Try.pinned (OpenSpec.ofChange Rows.fnExactNewSessionSpec) :=
  OpenClaim.holds_of_wide 6 Try.f6 rfl rfl rfl rfl rfl rfl rfl ⟨rfl, rfl, rfl, rfl, rfl⟩ rfl rfl rfl rfl rfl (by kernel_rfl) Try.func6 (by kernel_rfl)
    (of_decide_eq_true (by kernel_rfl)) (by unfold Func.isWrapper; first | (rw [if_pos (by decide +kernel)]; kernel_rfl) | (rw [if_neg (by decide +kernel)]; exact ⟨rfl, rfl⟩))
    (fun os started H enc _ => lifted os started H enc)
theorem proved : Rows.FnExactNewSessionSaid := over
#print axioms proved
end Go.Proofs.Ytaoepnmhflmhhaa.fnExactNewSession
namespace Go.Proofs.Ytaoepnmhflmhhaa
/-- The row, under a short name, for the claim. -/
theorem fnExactNewSession_holds : Rows.FnExactNewSessionSaid := fnExactNewSession.proved
end Go.Proofs.Ytaoepnmhflmhhaa
