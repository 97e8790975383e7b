/-
  No cell of these rows narrows 'for every input' (looked for: loops, veiled, ifaces, maps, wideKeys, modest, calm, conditions, laid).
  DERIVED. THE GIVEN ROWS OF THIS SEAT. 6 by the template 'for every input the law returns true; each argument reads behind the call as it read before'; 0 by the template 'total and deterministic' (their statements: YtgecopddbegaaaaTotals.lean).
  GIVEN WITH THE SEED: the statements are not yours to turn. If you find one false, say at which input.
  Laid BY PROGRAM, IN A SANDBOX (cutbox-rows.mjs): the forced cells as the released guide's own fill.sh prints them over the translation 711daac2d0f40f30… (all of the seat's roots in one cut). By AI agents, Wed Nov 11 2026. No macro, syntax, notation, axiom, sorry.
-/
import Derived.Test.YtgecopddbegaaaaChecked
import GoSem.Claim
import GoSem.ClaimJoined
import GoSem.ClaimMapViews
import Derived.JoinedTies
import Derived.KernelRfl
namespace Go.Proofs.Ytgecopddbegaaaa
/- THE CELL 'sum', in the pinned program and in every row, IS THE sha256 OF THE DUMP (.gsa) THAT YtgecopddbegaaaaProg.lean LOADS. Nothing in Lean hashes anything: it is a label: what it is worth is what the hold of that sum in a sandbox is worth. -/
noncomputable def Try.pinned : Pinned := { name := "ytgecopddbegaaaa", sum := "711daac2d0f40f3054dd7144bf5d7c91efebdeb0d0d87f03d66f34a790c9261e", checked := Try.checked }
namespace Rows
def none {H : Type} : Left H := { results := [], args := [] }

/-- 'laws.FnExactYesText': WHATEVER THE INPUT: true; the input reads as it did. -/
def fnExactYesTextSpec : ChangeSpec := { name := "fnExactYesText", fn := fun _ => fun
  | [d] => { results := [.lit (.bool true)], args := [d] }
  | _ => none }
def fnExactYesTextRow : OpenClaim := { program := "ytgecopddbegaaaa", sum := "711daac2d0f40f3054dd7144bf5d7c91efebdeb0d0d87f03d66f34a790c9261e", func := "loop.example/g03105/laws.FnExactYesText", spec := "fnExactYesText", apart := false }
def FnExactYesTextSaid : Prop := fnExactYesTextRow.holds Try.pinned (OpenSpec.ofChange fnExactYesTextSpec)

/-- ITS FALSE NEIGHBOUR: 'it returns false'. Refute it at one input. -/
def fnExactYesTextWrong : ChangeSpec := { name := "fnExactYesText", fn := fun _ => fun
  | [d] => { results := [.lit (.bool false)], args := [d] }
  | _ => none }
def FnExactYesTextWrongFalsely : Prop := fnExactYesTextRow.holds Try.pinned (OpenSpec.ofChange fnExactYesTextWrong)

/-- 'laws.FnExactCompleteGenus': WHATEVER THE INPUT: true; the input reads as it did. -/
def fnExactCompleteGenusSpec : ChangeSpec := { name := "fnExactCompleteGenus", fn := fun _ => fun
  | [d] => { results := [.lit (.bool true)], args := [d] }
  | _ => none }
def fnExactCompleteGenusRow : OpenClaim := { program := "ytgecopddbegaaaa", sum := "711daac2d0f40f3054dd7144bf5d7c91efebdeb0d0d87f03d66f34a790c9261e", func := "loop.example/g03105/laws.FnExactCompleteGenus", spec := "fnExactCompleteGenus", apart := false }
def FnExactCompleteGenusSaid : Prop := fnExactCompleteGenusRow.holds Try.pinned (OpenSpec.ofChange fnExactCompleteGenusSpec)

/-- ITS FALSE NEIGHBOUR: 'it returns false'. Refute it at one input. -/
def fnExactCompleteGenusWrong : ChangeSpec := { name := "fnExactCompleteGenus", fn := fun _ => fun
  | [d] => { results := [.lit (.bool false)], args := [d] }
  | _ => none }
def FnExactCompleteGenusWrongFalsely : Prop := fnExactCompleteGenusRow.holds Try.pinned (OpenSpec.ofChange fnExactCompleteGenusWrong)

/-- 'laws.FnExactCountPieces': WHATEVER THE INPUT: true; the input reads as it did. -/
def fnExactCountPiecesSpec : ChangeSpec := { name := "fnExactCountPieces", fn := fun _ => fun
  | [d] => { results := [.lit (.bool true)], args := [d] }
  | _ => none }
def fnExactCountPiecesRow : OpenClaim := { program := "ytgecopddbegaaaa", sum := "711daac2d0f40f3054dd7144bf5d7c91efebdeb0d0d87f03d66f34a790c9261e", func := "loop.example/g03105/laws.FnExactCountPieces", spec := "fnExactCountPieces", apart := false }
def FnExactCountPiecesSaid : Prop := fnExactCountPiecesRow.holds Try.pinned (OpenSpec.ofChange fnExactCountPiecesSpec)

/-- ITS FALSE NEIGHBOUR: 'it returns false'. Refute it at one input. -/
def fnExactCountPiecesWrong : ChangeSpec := { name := "fnExactCountPieces", fn := fun _ => fun
  | [d] => { results := [.lit (.bool false)], args := [d] }
  | _ => none }
def FnExactCountPiecesWrongFalsely : Prop := fnExactCountPiecesRow.holds Try.pinned (OpenSpec.ofChange fnExactCountPiecesWrong)

/-- 'laws.FnExactMostCurves': WHATEVER THE INPUT: true; the input reads as it did. -/
def fnExactMostCurvesSpec : ChangeSpec := { name := "fnExactMostCurves", fn := fun _ => fun
  | [d] => { results := [.lit (.bool true)], args := [d] }
  | _ => none }
def fnExactMostCurvesRow : OpenClaim := { program := "ytgecopddbegaaaa", sum := "711daac2d0f40f3054dd7144bf5d7c91efebdeb0d0d87f03d66f34a790c9261e", func := "loop.example/g03105/laws.FnExactMostCurves", spec := "fnExactMostCurves", apart := false }
def FnExactMostCurvesSaid : Prop := fnExactMostCurvesRow.holds Try.pinned (OpenSpec.ofChange fnExactMostCurvesSpec)

/-- ITS FALSE NEIGHBOUR: 'it returns false'. Refute it at one input. -/
def fnExactMostCurvesWrong : ChangeSpec := { name := "fnExactMostCurves", fn := fun _ => fun
  | [d] => { results := [.lit (.bool false)], args := [d] }
  | _ => none }
def FnExactMostCurvesWrongFalsely : Prop := fnExactMostCurvesRow.holds Try.pinned (OpenSpec.ofChange fnExactMostCurvesWrong)

/-- 'laws.FnExactCompleteColours': WHATEVER THE INPUT: true; the input reads as it did. -/
def fnExactCompleteColoursSpec : ChangeSpec := { name := "fnExactCompleteColours", fn := fun _ => fun
  | [d] => { results := [.lit (.bool true)], args := [d] }
  | _ => none }
def fnExactCompleteColoursRow : OpenClaim := { program := "ytgecopddbegaaaa", sum := "711daac2d0f40f3054dd7144bf5d7c91efebdeb0d0d87f03d66f34a790c9261e", func := "loop.example/g03105/laws.FnExactCompleteColours", spec := "fnExactCompleteColours", apart := false }
def FnExactCompleteColoursSaid : Prop := fnExactCompleteColoursRow.holds Try.pinned (OpenSpec.ofChange fnExactCompleteColoursSpec)

/-- ITS FALSE NEIGHBOUR: 'it returns false'. Refute it at one input. -/
def fnExactCompleteColoursWrong : ChangeSpec := { name := "fnExactCompleteColours", fn := fun _ => fun
  | [d] => { results := [.lit (.bool false)], args := [d] }
  | _ => none }
def FnExactCompleteColoursWrongFalsely : Prop := fnExactCompleteColoursRow.holds Try.pinned (OpenSpec.ofChange fnExactCompleteColoursWrong)

/-- 'laws.FnExactColourBound': WHATEVER THE INPUT: true; the input reads as it did. -/
def fnExactColourBoundSpec : ChangeSpec := { name := "fnExactColourBound", fn := fun _ => fun
  | [d] => { results := [.lit (.bool true)], args := [d] }
  | _ => none }
def fnExactColourBoundRow : OpenClaim := { program := "ytgecopddbegaaaa", sum := "711daac2d0f40f3054dd7144bf5d7c91efebdeb0d0d87f03d66f34a790c9261e", func := "loop.example/g03105/laws.FnExactColourBound", spec := "fnExactColourBound", apart := false }
def FnExactColourBoundSaid : Prop := fnExactColourBoundRow.holds Try.pinned (OpenSpec.ofChange fnExactColourBoundSpec)

/-- ITS FALSE NEIGHBOUR: 'it returns false'. Refute it at one input. -/
def fnExactColourBoundWrong : ChangeSpec := { name := "fnExactColourBound", fn := fun _ => fun
  | [d] => { results := [.lit (.bool false)], args := [d] }
  | _ => none }
def FnExactColourBoundWrongFalsely : Prop := fnExactColourBoundRow.holds Try.pinned (OpenSpec.ofChange fnExactColourBoundWrong)

/- THE SECOND FORM. 'bulk': how many values and letters a reading holds, each counted each time it is reached (what is shared counts as often as it is met; a slice's spare places count too). A statement '..UptoSaid' is the law's where the arguments, and the package variables that the reading takes, are together of bulk at most 1048576: NARROWER than '..Said'. Prove '..Said' where nothing that the law and all that it calls make is longer than what came in: it says more and counts as full. Else prove '..UptoSaid'. A law counts once. -/
mutual
def uptoBulk {H : Type} : DataW H → Nat
  | .lit (.string bytes) => bytes.length + 1
  | .lit _ => 1
  | .nil => 1
  | .ptr d => uptoBulk d + 1
  | .slice elems spare => uptoBulkAll elems + uptoBulkAll spare + 1
  | .agg parts => uptoBulkAll parts + 1
  | .iface _ d => uptoBulk d + 1
  | .map entries => uptoBulkEntries entries + 1
  | .held _ => 1
def uptoBulkAll {H : Type} : List (DataW H) → Nat
  | [] => 0
  | d :: r => uptoBulk d + uptoBulkAll r
def uptoBulkEntries {H : Type} : List (Lit × DataW H) → Nat
  | [] => 0
  | x :: r => uptoBulkEntry x + uptoBulkEntries r
def uptoBulkEntry {H : Type} : Lit × DataW H → Nat
  | (.string bytes, d) => bytes.length + uptoBulk d + 1
  | (_, d) => uptoBulk d + 1
 end
def uptoSmall : (H : Type) → List (DataW H) → Bool := fun _ ds => decide (uptoBulkAll ds ≤ 1048576)
def OpenSpec.upto (s : _root_.Go.ChangeSpec) : _root_.Go.OpenSpec := { _root_.Go.OpenSpec.ofChange s with cond := some uptoSmall }

/-- 'laws.FnExactYesText', WHERE WHAT IT READS IS OF BULK AT MOST 1048576: true; the input reads as it did. -/
def fnExactYesTextUptoRow : OpenClaim := { program := "ytgecopddbegaaaa", sum := "711daac2d0f40f3054dd7144bf5d7c91efebdeb0d0d87f03d66f34a790c9261e", func := "loop.example/g03105/laws.FnExactYesText", spec := "fnExactYesText", apart := false, narrowed := true }
def FnExactYesTextUptoSaid : Prop := fnExactYesTextUptoRow.holds Try.pinned (OpenSpec.upto fnExactYesTextSpec)

/-- 'laws.FnExactCompleteGenus', WHERE WHAT IT READS IS OF BULK AT MOST 1048576: true; the input reads as it did. -/
def fnExactCompleteGenusUptoRow : OpenClaim := { program := "ytgecopddbegaaaa", sum := "711daac2d0f40f3054dd7144bf5d7c91efebdeb0d0d87f03d66f34a790c9261e", func := "loop.example/g03105/laws.FnExactCompleteGenus", spec := "fnExactCompleteGenus", apart := false, narrowed := true }
def FnExactCompleteGenusUptoSaid : Prop := fnExactCompleteGenusUptoRow.holds Try.pinned (OpenSpec.upto fnExactCompleteGenusSpec)

/-- 'laws.FnExactCountPieces', WHERE WHAT IT READS IS OF BULK AT MOST 1048576: true; the input reads as it did. -/
def fnExactCountPiecesUptoRow : OpenClaim := { program := "ytgecopddbegaaaa", sum := "711daac2d0f40f3054dd7144bf5d7c91efebdeb0d0d87f03d66f34a790c9261e", func := "loop.example/g03105/laws.FnExactCountPieces", spec := "fnExactCountPieces", apart := false, narrowed := true }
def FnExactCountPiecesUptoSaid : Prop := fnExactCountPiecesUptoRow.holds Try.pinned (OpenSpec.upto fnExactCountPiecesSpec)

/-- 'laws.FnExactMostCurves', WHERE WHAT IT READS IS OF BULK AT MOST 1048576: true; the input reads as it did. -/
def fnExactMostCurvesUptoRow : OpenClaim := { program := "ytgecopddbegaaaa", sum := "711daac2d0f40f3054dd7144bf5d7c91efebdeb0d0d87f03d66f34a790c9261e", func := "loop.example/g03105/laws.FnExactMostCurves", spec := "fnExactMostCurves", apart := false, narrowed := true }
def FnExactMostCurvesUptoSaid : Prop := fnExactMostCurvesUptoRow.holds Try.pinned (OpenSpec.upto fnExactMostCurvesSpec)

/-- 'laws.FnExactCompleteColours', WHERE WHAT IT READS IS OF BULK AT MOST 1048576: true; the input reads as it did. -/
def fnExactCompleteColoursUptoRow : OpenClaim := { program := "ytgecopddbegaaaa", sum := "711daac2d0f40f3054dd7144bf5d7c91efebdeb0d0d87f03d66f34a790c9261e", func := "loop.example/g03105/laws.FnExactCompleteColours", spec := "fnExactCompleteColours", apart := false, narrowed := true }
def FnExactCompleteColoursUptoSaid : Prop := fnExactCompleteColoursUptoRow.holds Try.pinned (OpenSpec.upto fnExactCompleteColoursSpec)

/-- 'laws.FnExactColourBound', WHERE WHAT IT READS IS OF BULK AT MOST 1048576: true; the input reads as it did. -/
def fnExactColourBoundUptoRow : OpenClaim := { program := "ytgecopddbegaaaa", sum := "711daac2d0f40f3054dd7144bf5d7c91efebdeb0d0d87f03d66f34a790c9261e", func := "loop.example/g03105/laws.FnExactColourBound", spec := "fnExactColourBound", apart := false, narrowed := true }
def FnExactColourBoundUptoSaid : Prop := fnExactColourBoundUptoRow.holds Try.pinned (OpenSpec.upto fnExactColourBoundSpec)

end Rows
end Go.Proofs.Ytgecopddbegaaaa
