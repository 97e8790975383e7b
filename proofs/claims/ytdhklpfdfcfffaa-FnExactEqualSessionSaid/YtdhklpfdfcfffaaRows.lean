/-
  No cell of these rows narrows 'for every input' (looked for: loops, veiled, ifaces, maps, wideKeys, modest, calm, conditions, laid).
  DERIVED. THE GIVEN ROWS OF THIS SEAT. 8 by the template 'for every input the law returns true; each argument reads behind the call as it read before'; 0 by the template 'total and deterministic' (their statements: YtdhklpfdfcfffaaTotals.lean).
  GIVEN WITH THE SEED: the statements are not yours to turn. If you find one false, say at which input.
  Laid BY PROGRAM, IN A SANDBOX (cutbox-rows.mjs): the forced cells as the released guide's own fill.sh prints them over the translation 97b4ecc57f71a1c4… (all of the seat's roots in one cut). By AI agents, Wed Nov 11 2026. No macro, syntax, notation, axiom, sorry.
-/
import Derived.Test.YtdhklpfdfcfffaaChecked
import GoSem.Claim
import GoSem.ClaimJoined
import GoSem.ClaimMapViews
import Derived.JoinedTies
import Derived.KernelRfl
namespace Go.Proofs.Ytdhklpfdfcfffaa
/- THE CELL 'sum', in the pinned program and in every row, IS THE sha256 OF THE DUMP (.gsa) THAT YtdhklpfdfcfffaaProg.lean LOADS. Nothing in Lean hashes anything: it is a label: what it is worth is what the hold of that sum in a sandbox is worth. -/
noncomputable def Try.pinned : Pinned := { name := "ytdhklpfdfcfffaa", sum := "97b4ecc57f71a1c4df1119549ea4e0fad116f4597a26790b9ec445263af76224", checked := Try.checked }
namespace Rows
def none {H : Type} : Left H := { results := [], args := [] }

/-- 'laws.FnExactWordSlope': WHATEVER THE INPUT: true; the input reads as it did. -/
def fnExactWordSlopeSpec : ChangeSpec := { name := "fnExactWordSlope", fn := fun _ => fun
  | [d] => { results := [.lit (.bool true)], args := [d] }
  | _ => none }
def fnExactWordSlopeRow : OpenClaim := { program := "ytdhklpfdfcfffaa", sum := "97b4ecc57f71a1c4df1119549ea4e0fad116f4597a26790b9ec445263af76224", func := "loop.example/g03105/laws.FnExactWordSlope", spec := "fnExactWordSlope", apart := false }
def FnExactWordSlopeSaid : Prop := fnExactWordSlopeRow.holds Try.pinned (OpenSpec.ofChange fnExactWordSlopeSpec)

/-- ITS FALSE NEIGHBOUR: 'it returns false'. Refute it at one input. -/
def fnExactWordSlopeWrong : ChangeSpec := { name := "fnExactWordSlope", fn := fun _ => fun
  | [d] => { results := [.lit (.bool false)], args := [d] }
  | _ => none }
def FnExactWordSlopeWrongFalsely : Prop := fnExactWordSlopeRow.holds Try.pinned (OpenSpec.ofChange fnExactWordSlopeWrong)

/-- 'laws.FnExactEqualSession': WHATEVER THE INPUT: true; the input reads as it did. -/
def fnExactEqualSessionSpec : ChangeSpec := { name := "fnExactEqualSession", fn := fun _ => fun
  | [d1, d2] => { results := [.lit (.bool true)], args := [d1, d2] }
  | _ => none }
def fnExactEqualSessionRow : OpenClaim := { program := "ytdhklpfdfcfffaa", sum := "97b4ecc57f71a1c4df1119549ea4e0fad116f4597a26790b9ec445263af76224", func := "loop.example/g03105/laws.FnExactEqualSession", spec := "fnExactEqualSession", apart := false }
def FnExactEqualSessionSaid : Prop := fnExactEqualSessionRow.holds Try.pinned (OpenSpec.ofChange fnExactEqualSessionSpec)

/-- ITS FALSE NEIGHBOUR: 'it returns false'. Refute it at one input. -/
def fnExactEqualSessionWrong : ChangeSpec := { name := "fnExactEqualSession", fn := fun _ => fun
  | [d1, d2] => { results := [.lit (.bool false)], args := [d1, d2] }
  | _ => none }
def FnExactEqualSessionWrongFalsely : Prop := fnExactEqualSessionRow.holds Try.pinned (OpenSpec.ofChange fnExactEqualSessionWrong)

/-- 'laws.FnExactPowerOf': WHATEVER THE INPUT: true; the input reads as it did. -/
def fnExactPowerOfSpec : ChangeSpec := { name := "fnExactPowerOf", fn := fun _ => fun
  | [d] => { results := [.lit (.bool true)], args := [d] }
  | _ => none }
def fnExactPowerOfRow : OpenClaim := { program := "ytdhklpfdfcfffaa", sum := "97b4ecc57f71a1c4df1119549ea4e0fad116f4597a26790b9ec445263af76224", func := "loop.example/g03105/laws.FnExactPowerOf", spec := "fnExactPowerOf", apart := false }
def FnExactPowerOfSaid : Prop := fnExactPowerOfRow.holds Try.pinned (OpenSpec.ofChange fnExactPowerOfSpec)

/-- ITS FALSE NEIGHBOUR: 'it returns false'. Refute it at one input. -/
def fnExactPowerOfWrong : ChangeSpec := { name := "fnExactPowerOf", fn := fun _ => fun
  | [d] => { results := [.lit (.bool false)], args := [d] }
  | _ => none }
def FnExactPowerOfWrongFalsely : Prop := fnExactPowerOfRow.holds Try.pinned (OpenSpec.ofChange fnExactPowerOfWrong)

/-- 'laws.FnExactIsBorderWord': WHATEVER THE INPUT: true; the input reads as it did. -/
def fnExactIsBorderWordSpec : ChangeSpec := { name := "fnExactIsBorderWord", fn := fun _ => fun
  | [d] => { results := [.lit (.bool true)], args := [d] }
  | _ => none }
def fnExactIsBorderWordRow : OpenClaim := { program := "ytdhklpfdfcfffaa", sum := "97b4ecc57f71a1c4df1119549ea4e0fad116f4597a26790b9ec445263af76224", func := "loop.example/g03105/laws.FnExactIsBorderWord", spec := "fnExactIsBorderWord", apart := false }
def FnExactIsBorderWordSaid : Prop := fnExactIsBorderWordRow.holds Try.pinned (OpenSpec.ofChange fnExactIsBorderWordSpec)

/-- ITS FALSE NEIGHBOUR: 'it returns false'. Refute it at one input. -/
def fnExactIsBorderWordWrong : ChangeSpec := { name := "fnExactIsBorderWord", fn := fun _ => fun
  | [d] => { results := [.lit (.bool false)], args := [d] }
  | _ => none }
def FnExactIsBorderWordWrongFalsely : Prop := fnExactIsBorderWordRow.holds Try.pinned (OpenSpec.ofChange fnExactIsBorderWordWrong)

/-- 'laws.FnExactExampleGluing': WHATEVER THE INPUT: true; the input reads as it did. -/
def fnExactExampleGluingSpec : ChangeSpec := { name := "fnExactExampleGluing", fn := fun _ => fun
  | [d] => { results := [.lit (.bool true)], args := [d] }
  | _ => none }
def fnExactExampleGluingRow : OpenClaim := { program := "ytdhklpfdfcfffaa", sum := "97b4ecc57f71a1c4df1119549ea4e0fad116f4597a26790b9ec445263af76224", func := "loop.example/g03105/laws.FnExactExampleGluing", spec := "fnExactExampleGluing", apart := false }
def FnExactExampleGluingSaid : Prop := fnExactExampleGluingRow.holds Try.pinned (OpenSpec.ofChange fnExactExampleGluingSpec)

/-- ITS FALSE NEIGHBOUR: 'it returns false'. Refute it at one input. -/
def fnExactExampleGluingWrong : ChangeSpec := { name := "fnExactExampleGluing", fn := fun _ => fun
  | [d] => { results := [.lit (.bool false)], args := [d] }
  | _ => none }
def FnExactExampleGluingWrongFalsely : Prop := fnExactExampleGluingRow.holds Try.pinned (OpenSpec.ofChange fnExactExampleGluingWrong)

/-- 'laws.FnExactIsSimpleWord': WHATEVER THE INPUT: true; the input reads as it did. -/
def fnExactIsSimpleWordSpec : ChangeSpec := { name := "fnExactIsSimpleWord", fn := fun _ => fun
  | [d] => { results := [.lit (.bool true)], args := [d] }
  | _ => none }
def fnExactIsSimpleWordRow : OpenClaim := { program := "ytdhklpfdfcfffaa", sum := "97b4ecc57f71a1c4df1119549ea4e0fad116f4597a26790b9ec445263af76224", func := "loop.example/g03105/laws.FnExactIsSimpleWord", spec := "fnExactIsSimpleWord", apart := false }
def FnExactIsSimpleWordSaid : Prop := fnExactIsSimpleWordRow.holds Try.pinned (OpenSpec.ofChange fnExactIsSimpleWordSpec)

/-- ITS FALSE NEIGHBOUR: 'it returns false'. Refute it at one input. -/
def fnExactIsSimpleWordWrong : ChangeSpec := { name := "fnExactIsSimpleWord", fn := fun _ => fun
  | [d] => { results := [.lit (.bool false)], args := [d] }
  | _ => none }
def FnExactIsSimpleWordWrongFalsely : Prop := fnExactIsSimpleWordRow.holds Try.pinned (OpenSpec.ofChange fnExactIsSimpleWordWrong)

/-- 'laws.FnExactCountCross': WHATEVER THE INPUT: true; the input reads as it did. -/
def fnExactCountCrossSpec : ChangeSpec := { name := "fnExactCountCross", fn := fun _ => fun
  | [d1, d2] => { results := [.lit (.bool true)], args := [d1, d2] }
  | _ => none }
def fnExactCountCrossRow : OpenClaim := { program := "ytdhklpfdfcfffaa", sum := "97b4ecc57f71a1c4df1119549ea4e0fad116f4597a26790b9ec445263af76224", func := "loop.example/g03105/laws.FnExactCountCross", spec := "fnExactCountCross", apart := false }
def FnExactCountCrossSaid : Prop := fnExactCountCrossRow.holds Try.pinned (OpenSpec.ofChange fnExactCountCrossSpec)

/-- ITS FALSE NEIGHBOUR: 'it returns false'. Refute it at one input. -/
def fnExactCountCrossWrong : ChangeSpec := { name := "fnExactCountCross", fn := fun _ => fun
  | [d1, d2] => { results := [.lit (.bool false)], args := [d1, d2] }
  | _ => none }
def FnExactCountCrossWrongFalsely : Prop := fnExactCountCrossRow.holds Try.pinned (OpenSpec.ofChange fnExactCountCrossWrong)

/-- 'laws.FnCuts': WHATEVER THE INPUT: true; the input reads as it did. -/
def fnCutsSpec : ChangeSpec := { name := "fnCuts", fn := fun _ => fun
  | [d] => { results := [.lit (.bool true)], args := [d] }
  | _ => none }
def fnCutsRow : OpenClaim := { program := "ytdhklpfdfcfffaa", sum := "97b4ecc57f71a1c4df1119549ea4e0fad116f4597a26790b9ec445263af76224", func := "loop.example/g03105/laws.FnCuts", spec := "fnCuts", apart := false }
def FnCutsSaid : Prop := fnCutsRow.holds Try.pinned (OpenSpec.ofChange fnCutsSpec)

/-- ITS FALSE NEIGHBOUR: 'it returns false'. Refute it at one input. -/
def fnCutsWrong : ChangeSpec := { name := "fnCuts", fn := fun _ => fun
  | [d] => { results := [.lit (.bool false)], args := [d] }
  | _ => none }
def FnCutsWrongFalsely : Prop := fnCutsRow.holds Try.pinned (OpenSpec.ofChange fnCutsWrong)

/- THE SECOND FORM. 'bulk': how many values and letters a reading holds, each counted each time it is reached (what is shared counts as often as it is met; a slice's spare places count too). A statement '..UptoSaid' is the law's where the arguments, and the package variables that the reading takes, are together of bulk at most 1048576: NARROWER than '..Said'. Prove '..Said' where nothing that the law and all that it calls make is longer than what came in: it says more and counts as full. Else prove '..UptoSaid'. A law counts once. -/
mutual
def uptoBulk {H : Type} : DataW H → Nat
  | .lit (.string bytes) => bytes.length + 1
  | .lit _ => 1
  | .nil => 1
  | .ptr d => uptoBulk d + 1
  | .slice elems spare => uptoBulkAll elems + uptoBulkAll spare + 1
  | .agg parts => uptoBulkAll parts + 1
  | .iface _ d => uptoBulk d + 1
  | .map entries => uptoBulkEntries entries + 1
  | .held _ => 1
def uptoBulkAll {H : Type} : List (DataW H) → Nat
  | [] => 0
  | d :: r => uptoBulk d + uptoBulkAll r
def uptoBulkEntries {H : Type} : List (Lit × DataW H) → Nat
  | [] => 0
  | x :: r => uptoBulkEntry x + uptoBulkEntries r
def uptoBulkEntry {H : Type} : Lit × DataW H → Nat
  | (.string bytes, d) => bytes.length + uptoBulk d + 1
  | (_, d) => uptoBulk d + 1
 end
def uptoSmall : (H : Type) → List (DataW H) → Bool := fun _ ds => decide (uptoBulkAll ds ≤ 1048576)
def OpenSpec.upto (s : _root_.Go.ChangeSpec) : _root_.Go.OpenSpec := { _root_.Go.OpenSpec.ofChange s with cond := some uptoSmall }

/-- 'laws.FnExactWordSlope', WHERE WHAT IT READS IS OF BULK AT MOST 1048576: true; the input reads as it did. -/
def fnExactWordSlopeUptoRow : OpenClaim := { program := "ytdhklpfdfcfffaa", sum := "97b4ecc57f71a1c4df1119549ea4e0fad116f4597a26790b9ec445263af76224", func := "loop.example/g03105/laws.FnExactWordSlope", spec := "fnExactWordSlope", apart := false, narrowed := true }
def FnExactWordSlopeUptoSaid : Prop := fnExactWordSlopeUptoRow.holds Try.pinned (OpenSpec.upto fnExactWordSlopeSpec)

/-- 'laws.FnExactEqualSession', WHERE WHAT IT READS IS OF BULK AT MOST 1048576: true; the input reads as it did. -/
def fnExactEqualSessionUptoRow : OpenClaim := { program := "ytdhklpfdfcfffaa", sum := "97b4ecc57f71a1c4df1119549ea4e0fad116f4597a26790b9ec445263af76224", func := "loop.example/g03105/laws.FnExactEqualSession", spec := "fnExactEqualSession", apart := false, narrowed := true }
def FnExactEqualSessionUptoSaid : Prop := fnExactEqualSessionUptoRow.holds Try.pinned (OpenSpec.upto fnExactEqualSessionSpec)

/-- 'laws.FnExactPowerOf', WHERE WHAT IT READS IS OF BULK AT MOST 1048576: true; the input reads as it did. -/
def fnExactPowerOfUptoRow : OpenClaim := { program := "ytdhklpfdfcfffaa", sum := "97b4ecc57f71a1c4df1119549ea4e0fad116f4597a26790b9ec445263af76224", func := "loop.example/g03105/laws.FnExactPowerOf", spec := "fnExactPowerOf", apart := false, narrowed := true }
def FnExactPowerOfUptoSaid : Prop := fnExactPowerOfUptoRow.holds Try.pinned (OpenSpec.upto fnExactPowerOfSpec)

/-- 'laws.FnExactIsBorderWord', WHERE WHAT IT READS IS OF BULK AT MOST 1048576: true; the input reads as it did. -/
def fnExactIsBorderWordUptoRow : OpenClaim := { program := "ytdhklpfdfcfffaa", sum := "97b4ecc57f71a1c4df1119549ea4e0fad116f4597a26790b9ec445263af76224", func := "loop.example/g03105/laws.FnExactIsBorderWord", spec := "fnExactIsBorderWord", apart := false, narrowed := true }
def FnExactIsBorderWordUptoSaid : Prop := fnExactIsBorderWordUptoRow.holds Try.pinned (OpenSpec.upto fnExactIsBorderWordSpec)

/-- 'laws.FnExactExampleGluing', WHERE WHAT IT READS IS OF BULK AT MOST 1048576: true; the input reads as it did. -/
def fnExactExampleGluingUptoRow : OpenClaim := { program := "ytdhklpfdfcfffaa", sum := "97b4ecc57f71a1c4df1119549ea4e0fad116f4597a26790b9ec445263af76224", func := "loop.example/g03105/laws.FnExactExampleGluing", spec := "fnExactExampleGluing", apart := false, narrowed := true }
def FnExactExampleGluingUptoSaid : Prop := fnExactExampleGluingUptoRow.holds Try.pinned (OpenSpec.upto fnExactExampleGluingSpec)

/-- 'laws.FnExactIsSimpleWord', WHERE WHAT IT READS IS OF BULK AT MOST 1048576: true; the input reads as it did. -/
def fnExactIsSimpleWordUptoRow : OpenClaim := { program := "ytdhklpfdfcfffaa", sum := "97b4ecc57f71a1c4df1119549ea4e0fad116f4597a26790b9ec445263af76224", func := "loop.example/g03105/laws.FnExactIsSimpleWord", spec := "fnExactIsSimpleWord", apart := false, narrowed := true }
def FnExactIsSimpleWordUptoSaid : Prop := fnExactIsSimpleWordUptoRow.holds Try.pinned (OpenSpec.upto fnExactIsSimpleWordSpec)

/-- 'laws.FnExactCountCross', WHERE WHAT IT READS IS OF BULK AT MOST 1048576: true; the input reads as it did. -/
def fnExactCountCrossUptoRow : OpenClaim := { program := "ytdhklpfdfcfffaa", sum := "97b4ecc57f71a1c4df1119549ea4e0fad116f4597a26790b9ec445263af76224", func := "loop.example/g03105/laws.FnExactCountCross", spec := "fnExactCountCross", apart := false, narrowed := true }
def FnExactCountCrossUptoSaid : Prop := fnExactCountCrossUptoRow.holds Try.pinned (OpenSpec.upto fnExactCountCrossSpec)

/-- 'laws.FnCuts', WHERE WHAT IT READS IS OF BULK AT MOST 1048576: true; the input reads as it did. -/
def fnCutsUptoRow : OpenClaim := { program := "ytdhklpfdfcfffaa", sum := "97b4ecc57f71a1c4df1119549ea4e0fad116f4597a26790b9ec445263af76224", func := "loop.example/g03105/laws.FnCuts", spec := "fnCuts", apart := false, narrowed := true }
def FnCutsUptoSaid : Prop := fnCutsUptoRow.holds Try.pinned (OpenSpec.upto fnCutsSpec)

end Rows
end Go.Proofs.Ytdhklpfdfcfffaa
