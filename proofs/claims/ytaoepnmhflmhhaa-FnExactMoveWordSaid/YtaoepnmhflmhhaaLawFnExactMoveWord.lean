/- The row of FnExactMoveWord: for all arguments the law returns true and leaves its arguments alone; no condition. -/
import Derived.Test.YtaoepnmhflmhhaaRows
import Derived.Test.YtaoepnmhflmhhaaFnFnExactMoveWord2
import Derived.WalkKit
import Derived.ProofKit
import Derived.OpenShut
import Derived.ShutString
import Derived.ChangeOld
import Derived.Below
import Derived.SizedLaws
import Derived.Lib.SmallJoins
import Derived.Carry
import Derived.Deep.Slices
namespace Go.Proofs.Ytaoepnmhflmhhaa.fnExactMoveWord
open Go.ChangeShapes Go.WideShapes Go.ChangeAt Go.RowKit
open Go.ChangeMaps (open_string shut_string)
open Go.Proofs.YtaoepnmhflmhhaaVe Go.Proofs.YtaoepnmhflmhhaaTv
set_option linter.unusedVariables false
theorem own : ownKnob Try.prog.godebug = none := by kernel_rfl
theorem laidOut : laidOutB Try.prog = true := by kernel_rfl
set_option maxRecDepth 100000 in
theorem lifted (os : Os) (started : os.Started) (H : Type) (enc : TypeId × Value → H) :
    ReturnsInHanded {} Try.checked os 5 .any (Rows.fnExactMoveWordSpec.pre6 enc Try.prog Try.f5 Rows.fnExactMoveWordRow.domain false) (Rows.fnExactMoveWordSpec.post enc Try.prog Try.f5 false true false false) := by
  refine returnsInHanded_of_change_sized (C := Try.checked) own started (by kernel_rfl) Try.func5
    (ChangeSpec.witness6 (enc := enc) (C := Try.checked) false ⟨#[], #[.string ByteArray.empty, .slice none 0 0], []⟩ 8 (by kernel_rfl) (by kernel_rfl) (by kernel_rfl) (by kernel_rfl)) ?_
  intro W base args ds gs before hval0 hW hcnd hsz0 _
  have hsz : (DataW.weightsEach Try.prog (Try.f5.params.toList ++ Rows.fnExactMoveWordSpec.plain.varTypes Try.prog) (ds ++ gs)).all (· ≤ reachBytes) = true := hsz0
  have hval : ∀ (j : Nat) t v, Try.f5.params[j]? = some t → args[j]? = some v → Value.okWide Try.prog W .any base t v := hval0
  have hW' := hW
  obtain ⟨p, q, hA0, hV, rfl, hfz, hnd⟩ := hW
  have hA : DataW.TrodAll enc Try.prog W 0 (fun _ => true) true Try.f5.params.toList args.toList ds p := hA0
  rw [Try.params5] at hA hval hsz
  obtain ⟨v0, vs0, d0, ds0, p0, q0, hargs, rfl, rfl, h0, r0⟩ := trodAll_cons hA
  obtain ⟨v1, vs1, d1, ds1, p1, q1, rfl, rfl, rfl, h1, r1⟩ := trodAll_cons r0
  obtain ⟨rfl, rfl, rfl⟩ := trodAll_nil r1
  obtain rfl : args = #[v0, v1] := by cases args; simp_all
  obtain ⟨rfl, rfl⟩ := trodVars_none hV
  have hw : ∀ (j : Nat) t d, ([9, 28] : List TypeId)[j]? = some t → ([d0, d1] : List (DataW H))[j]? = some d → ∀ k ∈ d.weights Try.prog t, k ≤ reachBytes := fun j t d h1 h2 k hk => by
    have h3 : ∀ (X Y : List TypeId) (Z : List (DataW H)) j, X[j]? = some t → (X ++ Y)[j]? = some t := fun X Y _ j h => by rw [List.getElem?_append_left (List.getElem?_eq_some_iff.1 h).1]; exact h
    have h4 : ∀ (X Y : List (DataW H)) j, X[j]? = some d → (X ++ Y)[j]? = some d := fun X Y j h => by rw [List.getElem?_append_left (List.getElem?_eq_some_iff.1 h).1]; exact h
    have h5 := List.all_eq_true.1 hsz k (DataW.weights_mem_each (h3 _ _ [] j h1) (h4 _ _ j h2) k hk)
    simpa using h5
  have k0 := h0
  have lt0 : ∀ x ∈ p0, x.block < W.heap.size := by obtain ⟨m, hm⟩ := k0; exact DataW.trod_lt m _ _ _ hm
  obtain ⟨n0, rfl⟩ := okWide_string Try.underlying9 (hval 0 9 v0 rfl rfl)
  obtain ⟨fuel0, hf0⟩ := h0
  obtain ⟨x0, hx0, hg0⟩ := (opens_str Try.underlying9 : Opens enc Try.prog W 0 (fun _ => true) true 9 (.str)) fuel0 [.string n0] _ rfl (by simpa [Value.cells] using hf0) (hw 0 9 _ rfl rfl)
  obtain ⟨t0, fr0, vt0⟩ := hx0.one
  have k1 := h1
  have lt1 : ∀ x ∈ p1, x.block < W.heap.size := by obtain ⟨m, hm⟩ := k1; exact DataW.trod_lt m _ _ _ hm
  obtain ⟨b1, len1, cap1, rfl⟩ := okWide_slice Try.underlying28 (hval 1 28 v1 rfl rfl)
  obtain ⟨fuel1, hf1⟩ := h1
  obtain ⟨x1, hx1, hg1⟩ := (opens_slice (b := 8) Try.underlying28 (by kernel_rfl) (by decide) (by kernel_rfl) (by decide) (opens_int Try.underlying3) : Opens enc Try.prog W 0 (fun _ => true) true 28 (.list (.int .i64))) fuel1 [.slice b1 len1 cap1] _ rfl (by simpa [Value.cells] using hf1) (hw 1 28 _ rfl rfl)
  obtain ⟨t1, fr1, vt1⟩ := hx1.one
  clear hA0 hval0 hsz0 hsz
  refine (law_door (lawMoveWord x0 x1 hg0 hx1.len) (.cons _ _ _ _ fr0 (.cons _ _ _ _ fr1 .nil)) (.cons _ _ _ _ (vt0 _ _) (.cons _ _ _ _ (vt1 _ _) .nil))).mono fun e W' ⟨he, bel⟩ => ?_
  subst he
  exact ⟨_, rfl, _, _, _, [], _, [], hW', trodAll_mk1 (shut_bool Try.underlying4 _), (trodAll_cons_mk (Below.trod laidOut (by kernel_rfl) (of_decide_eq_true (by kernel_rfl)) k0 bel lt0) (trodAll_cons_mk (Below.trod laidOut (by kernel_rfl) (of_decide_eq_true (by kernel_rfl)) k1 bel lt1) trodAll_mk0)), rfl, bel.frame _, fun h => by cases h⟩
theorem over : Rows.fnExactMoveWordRow.holds Try.pinned (OpenSpec.ofChange Rows.fnExactMoveWordSpec) :=
  OpenClaim.holds_of_wide 5 Try.f5 rfl rfl rfl rfl rfl rfl rfl ⟨rfl, rfl, rfl, rfl, rfl⟩ rfl rfl rfl rfl rfl (by kernel_rfl) Try.func5 (by kernel_rfl)
    (of_decide_eq_true (by kernel_rfl)) (by unfold Func.isWrapper; first | (rw [if_pos (by decide +kernel)]; kernel_rfl) | (rw [if_neg (by decide +kernel)]; exact ⟨rfl, rfl⟩))
    (fun os started H enc _ => lifted os started H enc)
theorem proved : Rows.FnExactMoveWordSaid := over
#print axioms proved
end Go.Proofs.Ytaoepnmhflmhhaa.fnExactMoveWord
namespace Go.Proofs.Ytaoepnmhflmhhaa
/-- The row, under a short name, for the claim. -/
theorem fnExactMoveWord_holds : Rows.FnExactMoveWordSaid := fnExactMoveWord.proved
end Go.Proofs.Ytaoepnmhflmhhaa
