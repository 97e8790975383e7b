/- The row of FnExactEqualSession: for all arguments the law returns true and leaves its arguments alone; no condition. -/
import Derived.Test.YtdhklpfdfcfffaaRows
import Derived.Test.YtdhklpfdfcfffaaPFnExactEqualSessionx4
import Derived.Test.YtdhklpfdfcfffaaPureFnExactEqualSession
import Derived.WalkKit
import Derived.ProofKit
import Derived.OpenShut
import Derived.ShutString
import Derived.ChangeOld
import Derived.Below
import Derived.SizedLaws
import Derived.Lib.SmallJoins
import Derived.Carry
import Derived.Deep.Slices
namespace Go.Proofs.Ytdhklpfdfcfffaa.fnExactEqualSession
open Go.ChangeShapes Go.WideShapes Go.ChangeAt Go.RowKit Go.Joins
open Go.ChangeMaps (open_string shut_string)
set_option linter.unusedVariables false
theorem own : ownKnob Try.prog.godebug = none := by kernel_rfl
theorem laidOut : laidOutB Try.prog = true := by kernel_rfl
section
open Go.Proofs.YtdhklpfdfcfffaaW.PrintWords
variable {H : Type} {enc : TypeId × Value → H} {P : Program} {w : World} {base : Nat} {spare : Nat → Bool} {held : Bool}
/-- Cells that read as a datum of type t hold a value of the kind d, and G of it. -/
def Opens (enc : TypeId × Value → H) (P : Program) (w : World) (base : Nat) (spare : Nat → Bool) (held : Bool) (t : TypeId) {α : Type} (d : Kd α) (G : α → Prop) : Prop :=
  ∀ (n : Nat) (cs : List Value) (y : DataW H × List MemPlace), cs.length = d.sz → DataW.trod enc P w base spare held n t cs = some y → ∃ x, d.K w x cs ∧ G x
theorem opens_int {t : TypeId} {k : IntKind} (ht : P.underlying t = some (.int k)) : Opens enc P w base spare held t (Kd.int k) (fun x => (Lit.int k x).wf = true) := by
  intro n cs y hl h
  obtain ⟨c, rfl⟩ : ∃ c, cs = [c] := List.length_eq_one_iff.1 hl
  obtain ⟨x, e0, _, wx⟩ := DataW.trod_int ht h
  exact ⟨x, e0, wx⟩
theorem opens_slice {t e : TypeId} {α : Type} {d : Kd α} {G : α → Prop} (ht : P.underlying t = some (.slice e)) (hc : P.cellsOf e = d.sz) (hd : Opens enc P w base spare held e d G) : Opens enc P w base spare held t (Kd.slice e d) (fun xs => xs.length ≤ maxLen ∧ ∀ x ∈ xs, G x) := by
  intro n cs y hl h
  rcases Go.Deep.open_slice ht h with ⟨rfl, rfl⟩ | ⟨a, len, cap, m, n', D, Pl, rfl, hb, hle, hcap, hm, hx0, hi⟩
  · exact ⟨[], ⟨none, 0, rfl, Nat.le_refl _, Kd.C_nil _ _⟩, Nat.zero_le _, by simp⟩
  · have hml : len ≤ m := by rw [hm]; split <;> omega
    have hx : ∀ i : Fin len, ∃ x, ∃ cs', w.cells? base (a.add (i.1 * P.cellsOf e)) (P.cellsOf e) = some cs' ∧ d.K w x cs' ∧ G x := by
      intro i
      obtain ⟨cs', h1, h2⟩ := hi i.1 (by have := i.2; omega)
      obtain ⟨_, hcl, _⟩ := World.cells?_some h1
      obtain ⟨x, h3, h4⟩ := hd _ _ _ (hcl.trans hc) h2
      exact ⟨x, cs', h1, h3, h4⟩
    have hlen : (List.ofFn (fun i => Classical.choose (hx i))).length = len := by simp
    refine ⟨List.ofFn (fun i => Classical.choose (hx i)), ⟨some a, cap, by rw [hlen], by rw [hlen]; exact hle, rfl, by rw [hlen]; unfold maxLen at hcap; omega, fun _ => ⟨a, rfl, fun j p hj => ?_⟩⟩, by rw [hlen]; exact Nat.le_trans hle hcap, fun x hxm => ?_⟩
    · rw [List.getElem?_ofFn] at hj
      split at hj
      · next hlt =>
        obtain rfl := Option.some.inj hj
        obtain ⟨cs', h1, h2, _⟩ := Classical.choose_spec (hx ⟨j, hlt⟩)
        obtain ⟨_, hcl, hat⟩ := World.cells?_some h1
        refine ⟨cs', hcl.trans hc, h2, fun i u hu => ?_⟩
        have hil : i < P.cellsOf e := by rw [← hcl]; exact (List.getElem?_eq_some_iff.1 hu).1
        rw [← hc, ← Go.Deep.add_add, hat i hil, hu]
      · cases hj
    · rw [List.mem_ofFn] at hxm
      obtain ⟨i, rfl⟩ := hxm
      obtain ⟨_, _, _, h4⟩ := Classical.choose_spec (hx i)
      exact h4
end
section
open Go.Joins
variable {H : Type} {enc : TypeId × Value → H} {P : Program} {w : World} {base : Nat} {spare : Nat → Bool} {held : Bool}
/-- A struct of five one-cell fields that came in by value: its cells, each with its reading. -/
theorem opens_five {r : Reach} {b0 : Nat} {t : TypeId} {f0 f1 f2 f3 f4 : Field} {v : Value} {d : DataW H} {p : List MemPlace} (hs : P.underlying t = some (.struct #[f0, f1, f2, f3, f4])) (hone : Go.Deep.oneCellFields P #[f0, f1, f2, f3, f4] = true) (hC : P.cellsOf t = 5)
    (hv : Value.okWide P w r b0 t v) (h : DataW.Trod enc P w base spare held t v d p) :
    ∃ (v0 v1 v2 v3 v4 : Value) (y0 y1 y2 y3 y4 : DataW H × List MemPlace) (n : Nat), v = .agg #[v0, v1, v2, v3, v4] ∧
      DataW.trod enc P w base spare held n f0.type [v0] = some y0 ∧ DataW.trod enc P w base spare held n f1.type [v1] = some y1 ∧ DataW.trod enc P w base spare held n f2.type [v2] = some y2 ∧ DataW.trod enc P w base spare held n f3.type [v3] = some y3 ∧ DataW.trod enc P w base spare held n f4.type [v4] = some y4 ∧
      d = .agg [y0.1, y1.1, y2.1, y3.1, y4.1] := by
  obtain ⟨cs, rfl, hsz⟩ := okWide_struct hs hv
  obtain ⟨l⟩ := cs
  match l, hsz.trans hC with
  | [c0, c1, c2, c3, c4], _ =>
    obtain ⟨fuel, hf⟩ := h
    obtain ⟨xs, n, _, hx, _, hlen, hg⟩ := DataW.trod_struct hs hf
    obtain ⟨o0, k0⟩ := Go.Deep.hone_of hone 0 f0 rfl
    obtain ⟨o1, k1⟩ := Go.Deep.hone_of hone 1 f1 rfl
    obtain ⟨o2, k2⟩ := Go.Deep.hone_of hone 2 f2 rfl
    obtain ⟨o3, k3⟩ := Go.Deep.hone_of hone 3 f3 rfl
    obtain ⟨o4, k4⟩ := Go.Deep.hone_of hone 4 f4 rfl
    match xs, hlen with
    | [y0, y1, y2, y3, y4], _ =>
      simp only [Prod.mk.injEq] at hx
      exact ⟨c0, c1, c2, c3, c4, y0, y1, y2, y3, y4, n, rfl, by simpa [Value.cells, o0, k0] using hg 0 f0 rfl, by simpa [Value.cells, o1, k1] using hg 1 f1 rfl, by simpa [Value.cells, o2, k2] using hg 2 f2 rfl, by simpa [Value.cells, o3, k3] using hg 3 f3 rfl, by simpa [Value.cells, o4, k4] using hg 4 f4 rfl, by simpa using hx.1⟩
end
set_option maxRecDepth 100000 in
theorem lifted (os : Os) (started : os.Started) (H : Type) (enc : TypeId × Value → H) :
    ReturnsInHanded {} Try.checked os 4 .any (Rows.fnExactEqualSessionSpec.pre6 enc Try.prog Try.f4 Rows.fnExactEqualSessionRow.domain false) (Rows.fnExactEqualSessionSpec.post enc Try.prog Try.f4 false true false false) := by
  refine returnsInHanded_of_change_sized (C := Try.checked) own started (by kernel_rfl) Try.func4
    (ChangeSpec.witness6 (enc := enc) (C := Try.checked) false ⟨#[], #[.agg #[.slice none 0 0, .slice none 0 0, .slice none 0 0, .string ByteArray.empty, .slice none 0 0], .agg #[.slice none 0 0, .slice none 0 0, .slice none 0 0, .string ByteArray.empty, .slice none 0 0]], []⟩ 8 (by kernel_rfl) (by kernel_rfl) (by kernel_rfl) (by kernel_rfl)) ?_
  intro W base args ds gs before hval0 hW hcnd hsz0 _
  have hsz : (DataW.weightsEach Try.prog (Try.f4.params.toList ++ Rows.fnExactEqualSessionSpec.plain.varTypes Try.prog) (ds ++ gs)).all (· ≤ reachBytes) = true := hsz0
  have hval : ∀ (j : Nat) t v, Try.f4.params[j]? = some t → args[j]? = some v → Value.okWide Try.prog W .any base t v := hval0
  have hW' := hW
  obtain ⟨p, q, hA0, hV, rfl, hfz, hnd⟩ := hW
  have hA : DataW.TrodAll enc Try.prog W 0 (fun _ => true) true Try.f4.params.toList args.toList ds p := hA0
  rw [Try.params4] at hA hval hsz
  obtain ⟨v0, vs0, d0, ds0, p0, q0, hargs, rfl, rfl, h0, r0⟩ := trodAll_cons hA
  obtain ⟨v1, vs1, d1, ds1, p1, q1, rfl, rfl, rfl, h1, r1⟩ := trodAll_cons r0
  obtain ⟨rfl, rfl, rfl⟩ := trodAll_nil r1
  obtain rfl : args = #[v0, v1] := by cases args; simp_all
  obtain ⟨rfl, rfl⟩ := trodVars_none hV
  have k0 := h0
  have lt0 : ∀ x ∈ p0, x.block < W.heap.size := by obtain ⟨m, hm⟩ := k0; exact DataW.trod_lt m _ _ _ hm
  obtain ⟨c0_0, c0_1, c0_2, c0_3, c0_4, y0_0, y0_1, y0_2, y0_3, y0_4, m0, rfl, hy0_0, hy0_1, hy0_2, hy0_3, hy0_4, _⟩ := opens_five Try.underlying33 (by kernel_rfl) (by kernel_rfl) (hval 0 33 v0 rfl rfl) h0
  obtain ⟨l0_0, ⟨A0_0, d0_0, hcs0_0, hc0_0, hC0_0⟩, hl0_0, hg0_0⟩ := (opens_slice Try.underlying31 (by kernel_rfl) (opens_slice Try.underlying22 (by kernel_rfl) (opens_int Try.underlying3))) m0 [c0_0] _ rfl hy0_0
  simp only [List.cons.injEq, and_true] at hcs0_0
  subst hcs0_0
  obtain ⟨l0_1, ⟨A0_1, d0_1, hcs0_1, hc0_1, hC0_1⟩, hl0_1, hg0_1⟩ := (opens_slice Try.underlying31 (by kernel_rfl) (opens_slice Try.underlying22 (by kernel_rfl) (opens_int Try.underlying3))) m0 [c0_1] _ rfl hy0_1
  simp only [List.cons.injEq, and_true] at hcs0_1
  subst hcs0_1
  obtain ⟨l0_2, ⟨A0_2, d0_2, hcs0_2, hc0_2, hC0_2⟩, hl0_2, hg0_2⟩ := (opens_slice Try.underlying22 (by kernel_rfl) (opens_int Try.underlying3)) m0 [c0_2] _ rfl hy0_2
  simp only [List.cons.injEq, and_true] at hcs0_2
  subst hcs0_2
  obtain ⟨a0_3, e0_3, _, w0_3⟩ := DataW.trod_string Try.underlying9 hy0_3
  simp only [List.cons.injEq, and_true] at e0_3
  subst e0_3
  obtain ⟨l0_4, ⟨A0_4, d0_4, hcs0_4, hc0_4, hC0_4⟩, hl0_4, hg0_4⟩ := (opens_slice Try.underlying22 (by kernel_rfl) (opens_int Try.underlying3)) m0 [c0_4] _ rfl hy0_4
  simp only [List.cons.injEq, and_true] at hcs0_4
  subst hcs0_4
  have k1 := h1
  have lt1 : ∀ x ∈ p1, x.block < W.heap.size := by obtain ⟨m, hm⟩ := k1; exact DataW.trod_lt m _ _ _ hm
  obtain ⟨c1_0, c1_1, c1_2, c1_3, c1_4, y1_0, y1_1, y1_2, y1_3, y1_4, m1, rfl, hy1_0, hy1_1, hy1_2, hy1_3, hy1_4, _⟩ := opens_five Try.underlying33 (by kernel_rfl) (by kernel_rfl) (hval 1 33 v1 rfl rfl) h1
  obtain ⟨l1_0, ⟨A1_0, d1_0, hcs1_0, hc1_0, hC1_0⟩, hl1_0, hg1_0⟩ := (opens_slice Try.underlying31 (by kernel_rfl) (opens_slice Try.underlying22 (by kernel_rfl) (opens_int Try.underlying3))) m1 [c1_0] _ rfl hy1_0
  simp only [List.cons.injEq, and_true] at hcs1_0
  subst hcs1_0
  obtain ⟨l1_1, ⟨A1_1, d1_1, hcs1_1, hc1_1, hC1_1⟩, hl1_1, hg1_1⟩ := (opens_slice Try.underlying31 (by kernel_rfl) (opens_slice Try.underlying22 (by kernel_rfl) (opens_int Try.underlying3))) m1 [c1_1] _ rfl hy1_1
  simp only [List.cons.injEq, and_true] at hcs1_1
  subst hcs1_1
  obtain ⟨l1_2, ⟨A1_2, d1_2, hcs1_2, hc1_2, hC1_2⟩, hl1_2, hg1_2⟩ := (opens_slice Try.underlying22 (by kernel_rfl) (opens_int Try.underlying3)) m1 [c1_2] _ rfl hy1_2
  simp only [List.cons.injEq, and_true] at hcs1_2
  subst hcs1_2
  obtain ⟨a1_3, e1_3, _, w1_3⟩ := DataW.trod_string Try.underlying9 hy1_3
  simp only [List.cons.injEq, and_true] at e1_3
  subst e1_3
  obtain ⟨l1_4, ⟨A1_4, d1_4, hcs1_4, hc1_4, hC1_4⟩, hl1_4, hg1_4⟩ := (opens_slice Try.underlying22 (by kernel_rfl) (opens_int Try.underlying3)) m1 [c1_4] _ rfl hy1_4
  simp only [List.cons.injEq, and_true] at hcs1_4
  subst hcs1_4
  clear hA0 hval0 hsz0 hsz
  obtain ⟨k, hk⟩ := Pure.FnExactEqualSession l0_0 l0_1 l0_2 a0_3 l0_4 l1_0 l1_1 l1_2 a1_3 l1_4 hl0_0 hg0_0 hl0_1 hg0_1 hl0_2 hg0_2 w0_3 hl0_4 hg0_4 hl1_0 hg1_0 hl1_1 hg1_1 hl1_2 hg1_2 w1_3 hl1_4 hg1_4
  refine (PFnExactEqualSession.laws_FnExactEqualSession.calls k _ _ l0_0 _ _ l0_1 _ _ l0_2 a0_3 _ _ l0_4 _ _ l1_0 _ _ l1_1 _ _ l1_2 a1_3 _ _ l1_4 true W hC0_0 hc0_0 hC0_1 hc0_1 hC0_2 hc0_2 hC0_4 hc0_4 hC1_0 hc1_0 hC1_1 hc1_1 hC1_2 hc1_2 hC1_4 hc1_4 rfl hk).mono fun e W' ⟨he, bel0⟩ => ?_
  have bel : Below W.heap.size W W' := bel0
  subst he
  exact ⟨_, rfl, _, _, _, [], _, [], hW', trodAll_mk1 (shut_bool Try.underlying4 _), (trodAll_cons_mk (Below.trod laidOut (by kernel_rfl) (of_decide_eq_true (by kernel_rfl)) k0 bel lt0) (trodAll_cons_mk (Below.trod laidOut (by kernel_rfl) (of_decide_eq_true (by kernel_rfl)) k1 bel lt1) trodAll_mk0)), rfl, bel.frame _, fun h => by cases h⟩
theorem over : Rows.fnExactEqualSessionRow.holds Try.pinned (OpenSpec.ofChange Rows.fnExactEqualSessionSpec) :=
  OpenClaim.holds_of_wide 4 Try.f4 rfl rfl rfl rfl rfl rfl rfl ⟨rfl, rfl, rfl, rfl, rfl⟩ rfl rfl rfl rfl rfl (by kernel_rfl) Try.func4 (by kernel_rfl)
    (of_decide_eq_true (by kernel_rfl)) (by unfold Func.isWrapper; first | (rw [if_pos (by decide +kernel)]; kernel_rfl) | (rw [if_neg (by decide +kernel)]; exact ⟨rfl, rfl⟩))
    (fun os started H enc _ => lifted os started H enc)
theorem proved : Rows.FnExactEqualSessionSaid := over
#print axioms proved
end Go.Proofs.Ytdhklpfdfcfffaa.fnExactEqualSession
namespace Go.Proofs.Ytdhklpfdfcfffaa
/-- The row, under a short name, for the claim. -/
theorem fnExactEqualSession_holds : Rows.FnExactEqualSessionSaid := fnExactEqualSession.proved
end Go.Proofs.Ytdhklpfdfcfffaa
