/- The row of FnExactPantsDistance: for all arguments the law returns true and leaves its arguments alone; no condition. -/
import Derived.Test.YtlglchbkenaekaaRows
import Derived.Test.YtlglchbkenaekaaFnFnExactPantsDistance4
import Derived.WalkKit
import Derived.ProofKit
import Derived.OpenShut
import Derived.ShutString
import Derived.ChangeOld
import Derived.Below
import Derived.SizedLaws
import Derived.Lib.SmallJoins
import Derived.Carry
import Derived.Deep.Slices
namespace Go.Proofs.Ytlglchbkenaekaa.fnExactPantsDistance
open Go.ChangeShapes Go.WideShapes Go.ChangeAt Go.RowKit
open Go.ChangeMaps (open_string shut_string)
open Go.Proofs.YtlglchbkenaekaaVe Go.Proofs.YtlglchbkenaekaaTv
set_option linter.unusedVariables false
theorem own : ownKnob Try.prog.godebug = none := by kernel_rfl
theorem laidOut : laidOutB Try.prog = true := by kernel_rfl
set_option maxRecDepth 100000 in
theorem lifted (os : Os) (started : os.Started) (H : Type) (enc : TypeId × Value → H) :
    ReturnsInHanded {} Try.checked os 9 .any (Rows.fnExactPantsDistanceSpec.pre6 enc Try.prog Try.f9 Rows.fnExactPantsDistanceRow.domain false) (Rows.fnExactPantsDistanceSpec.post enc Try.prog Try.f9 false true false false) := by
  refine returnsInHanded_of_change_sized (C := Try.checked) own started (by kernel_rfl) Try.func9
    (ChangeSpec.witness6 (enc := enc) (C := Try.checked) false ⟨#[], #[.int .i64 0, .slice none 0 0, .slice none 0 0], []⟩ 8 (by kernel_rfl) (by kernel_rfl) (by kernel_rfl) (by kernel_rfl)) ?_
  intro W base args ds gs before hval0 hW hcnd hsz0 _
  have hsz : (DataW.weightsEach Try.prog (Try.f9.params.toList ++ Rows.fnExactPantsDistanceSpec.plain.varTypes Try.prog) (ds ++ gs)).all (· ≤ reachBytes) = true := hsz0
  have hval : ∀ (j : Nat) t v, Try.f9.params[j]? = some t → args[j]? = some v → Value.okWide Try.prog W .any base t v := hval0
  have hW' := hW
  obtain ⟨p, q, hA0, hV, rfl, hfz, hnd⟩ := hW
  have hA : DataW.TrodAll enc Try.prog W 0 (fun _ => true) true Try.f9.params.toList args.toList ds p := hA0
  rw [Try.params9] at hA hval hsz
  obtain ⟨v0, vs0, d0, ds0, p0, q0, hargs, rfl, rfl, h0, r0⟩ := trodAll_cons hA
  obtain ⟨v1, vs1, d1, ds1, p1, q1, rfl, rfl, rfl, h1, r1⟩ := trodAll_cons r0
  obtain ⟨v2, vs2, d2, ds2, p2, q2, rfl, rfl, rfl, h2, r2⟩ := trodAll_cons r1
  obtain ⟨rfl, rfl, rfl⟩ := trodAll_nil r2
  obtain rfl : args = #[v0, v1, v2] := by cases args; simp_all
  obtain ⟨rfl, rfl⟩ := trodVars_none hV
  have hw : ∀ (j : Nat) t d, ([3, 22, 22] : List TypeId)[j]? = some t → ([d0, d1, d2] : List (DataW H))[j]? = some d → ∀ k ∈ d.weights Try.prog t, k ≤ reachBytes := fun j t d h1 h2 k hk => by
    have h3 : ∀ (X Y : List TypeId) (Z : List (DataW H)) j, X[j]? = some t → (X ++ Y)[j]? = some t := fun X Y _ j h => by rw [List.getElem?_append_left (List.getElem?_eq_some_iff.1 h).1]; exact h
    have h4 : ∀ (X Y : List (DataW H)) j, X[j]? = some d → (X ++ Y)[j]? = some d := fun X Y j h => by rw [List.getElem?_append_left (List.getElem?_eq_some_iff.1 h).1]; exact h
    have h5 := List.all_eq_true.1 hsz k (DataW.weights_mem_each (h3 _ _ [] j h1) (h4 _ _ j h2) k hk)
    simpa using h5
  have k0 := h0
  have lt0 : ∀ x ∈ p0, x.block < W.heap.size := by obtain ⟨m, hm⟩ := k0; exact DataW.trod_lt m _ _ _ hm
  obtain ⟨n0, rfl⟩ := okWide_int Try.underlying3 (hval 0 3 v0 rfl rfl)
  obtain ⟨fuel0, hf0⟩ := h0
  obtain ⟨x0, hx0, hg0⟩ := (opens_int Try.underlying3 : Opens enc Try.prog W 0 (fun _ => true) true 3 (.int .i64)) fuel0 [.int .i64 n0] _ rfl (by simpa [Value.cells] using hf0) (hw 0 3 _ rfl rfl)
  obtain ⟨t0, fr0, vt0⟩ := hx0.one
  have k1 := h1
  have lt1 : ∀ x ∈ p1, x.block < W.heap.size := by obtain ⟨m, hm⟩ := k1; exact DataW.trod_lt m _ _ _ hm
  obtain ⟨b1, len1, cap1, rfl⟩ := okWide_slice Try.underlying22 (hval 1 22 v1 rfl rfl)
  obtain ⟨fuel1, hf1⟩ := h1
  obtain ⟨x1, hx1, hg1⟩ := (opens_slice (b := 24) Try.underlying22 (by kernel_rfl) (by decide) (by kernel_rfl) (by decide) (opens_slice (b := 8) Try.underlying27 (by kernel_rfl) (by decide) (by kernel_rfl) (by decide) (opens_int Try.underlying3)) : Opens enc Try.prog W 0 (fun _ => true) true 22 (.list (.list (.int .i64)))) fuel1 [.slice b1 len1 cap1] _ rfl (by simpa [Value.cells] using hf1) (hw 1 22 _ rfl rfl)
  obtain ⟨t1, fr1, vt1⟩ := hx1.one
  have k2 := h2
  have lt2 : ∀ x ∈ p2, x.block < W.heap.size := by obtain ⟨m, hm⟩ := k2; exact DataW.trod_lt m _ _ _ hm
  obtain ⟨b2, len2, cap2, rfl⟩ := okWide_slice Try.underlying22 (hval 2 22 v2 rfl rfl)
  obtain ⟨fuel2, hf2⟩ := h2
  obtain ⟨x2, hx2, hg2⟩ := (opens_slice (b := 24) Try.underlying22 (by kernel_rfl) (by decide) (by kernel_rfl) (by decide) (opens_slice (b := 8) Try.underlying27 (by kernel_rfl) (by decide) (by kernel_rfl) (by decide) (opens_int Try.underlying3)) : Opens enc Try.prog W 0 (fun _ => true) true 22 (.list (.list (.int .i64)))) fuel2 [.slice b2 len2 cap2] _ rfl (by simpa [Value.cells] using hf2) (hw 2 22 _ rfl rfl)
  obtain ⟨t2, fr2, vt2⟩ := hx2.one
  clear hA0 hval0 hsz0 hsz
  refine (law_door (lawPantsDistance x0 x1 x2 hx1.rows.1 hx1.rows.2 hx2.rows.1 hx2.rows.2) (.cons _ _ _ _ fr0 (.cons _ _ _ _ fr1 (.cons _ _ _ _ fr2 .nil))) (.cons _ _ _ _ (vt0 _ _) (.cons _ _ _ _ (vt1 _ _) (.cons _ _ _ _ (vt2 _ _) .nil)))).mono fun e W' ⟨he, bel⟩ => ?_
  subst he
  exact ⟨_, rfl, _, _, _, [], _, [], hW', trodAll_mk1 (shut_bool Try.underlying4 _), (trodAll_cons_mk (Below.trod laidOut (by kernel_rfl) (of_decide_eq_true (by kernel_rfl)) k0 bel lt0) (trodAll_cons_mk (Below.trod laidOut (by kernel_rfl) (of_decide_eq_true (by kernel_rfl)) k1 bel lt1) (trodAll_cons_mk (Below.trod laidOut (by kernel_rfl) (of_decide_eq_true (by kernel_rfl)) k2 bel lt2) trodAll_mk0))), rfl, bel.frame _, fun h => by cases h⟩
theorem over : Rows.fnExactPantsDistanceRow.holds Try.pinned (OpenSpec.ofChange Rows.fnExactPantsDistanceSpec) :=
  OpenClaim.holds_of_wide 9 Try.f9 rfl rfl rfl rfl rfl rfl rfl ⟨rfl, rfl, rfl, rfl, rfl⟩ rfl rfl rfl rfl rfl (by kernel_rfl) Try.func9 (by kernel_rfl)
    (of_decide_eq_true (by kernel_rfl)) (by unfold Func.isWrapper; first | (rw [if_pos (by decide +kernel)]; kernel_rfl) | (rw [if_neg (by decide +kernel)]; exact ⟨rfl, rfl⟩))
    (fun os started H enc _ => lifted os started H enc)
theorem proved : Rows.FnExactPantsDistanceSaid := over
#print axioms proved
end Go.Proofs.Ytlglchbkenaekaa.fnExactPantsDistance
namespace Go.Proofs.Ytlglchbkenaekaa
/-- The row, under a short name, for the claim. -/
theorem fnExactPantsDistance_holds : Rows.FnExactPantsDistanceSaid := fnExactPantsDistance.proved
end Go.Proofs.Ytlglchbkenaekaa
