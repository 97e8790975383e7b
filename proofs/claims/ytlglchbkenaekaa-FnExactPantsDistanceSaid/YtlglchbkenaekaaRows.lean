/-
  No cell of these rows narrows 'for every input' (looked for: loops, veiled, ifaces, maps, wideKeys, modest, calm, conditions, laid).
  DERIVED. THE GIVEN ROWS OF THIS SEAT. 9 by the template 'for every input the law returns true; each argument reads behind the call as it read before'; 0 by the template 'total and deterministic' (their statements: YtlglchbkenaekaaTotals.lean).
  GIVEN WITH THE SEED: the statements are not yours to turn. If you find one false, say at which input.
  Laid BY PROGRAM, IN A SANDBOX (cutbox-rows.mjs): the forced cells as the released guide's own fill.sh prints them over the translation 93b5b0e56bf32066… (all of the seat's roots in one cut). By AI agents, Wed Nov 11 2026. No macro, syntax, notation, axiom, sorry.
-/
import Derived.Test.YtlglchbkenaekaaChecked
import GoSem.Claim
import GoSem.ClaimJoined
import GoSem.ClaimMapViews
import Derived.JoinedTies
import Derived.KernelRfl
namespace Go.Proofs.Ytlglchbkenaekaa
/- THE CELL 'sum', in the pinned program and in every row, IS THE sha256 OF THE DUMP (.gsa) THAT YtlglchbkenaekaaProg.lean LOADS. Nothing in Lean hashes anything: it is a label: what it is worth is what the hold of that sum in a sandbox is worth. -/
noncomputable def Try.pinned : Pinned := { name := "ytlglchbkenaekaa", sum := "93b5b0e56bf3206649357f642f63b2a7247130e212fa8657569e330f5c7533ed", checked := Try.checked }
namespace Rows
def none {H : Type} : Left H := { results := [], args := [] }

/-- 'laws.FnExactIsPants': WHATEVER THE INPUT: true; the input reads as it did. -/
def fnExactIsPantsSpec : ChangeSpec := { name := "fnExactIsPants", fn := fun _ => fun
  | [d1, d2] => { results := [.lit (.bool true)], args := [d1, d2] }
  | _ => none }
def fnExactIsPantsRow : OpenClaim := { program := "ytlglchbkenaekaa", sum := "93b5b0e56bf3206649357f642f63b2a7247130e212fa8657569e330f5c7533ed", func := "loop.example/g03105/laws.FnExactIsPants", spec := "fnExactIsPants", apart := false }
def FnExactIsPantsSaid : Prop := fnExactIsPantsRow.holds Try.pinned (OpenSpec.ofChange fnExactIsPantsSpec)

/-- ITS FALSE NEIGHBOUR: 'it returns false'. Refute it at one input. -/
def fnExactIsPantsWrong : ChangeSpec := { name := "fnExactIsPants", fn := fun _ => fun
  | [d1, d2] => { results := [.lit (.bool false)], args := [d1, d2] }
  | _ => none }
def FnExactIsPantsWrongFalsely : Prop := fnExactIsPantsRow.holds Try.pinned (OpenSpec.ofChange fnExactIsPantsWrong)

/-- 'laws.FnExactBridgesOf': WHATEVER THE INPUT: true; the input reads as it did. -/
def fnExactBridgesOfSpec : ChangeSpec := { name := "fnExactBridgesOf", fn := fun _ => fun
  | [d1, d2] => { results := [.lit (.bool true)], args := [d1, d2] }
  | _ => none }
def fnExactBridgesOfRow : OpenClaim := { program := "ytlglchbkenaekaa", sum := "93b5b0e56bf3206649357f642f63b2a7247130e212fa8657569e330f5c7533ed", func := "loop.example/g03105/laws.FnExactBridgesOf", spec := "fnExactBridgesOf", apart := false }
def FnExactBridgesOfSaid : Prop := fnExactBridgesOfRow.holds Try.pinned (OpenSpec.ofChange fnExactBridgesOfSpec)

/-- ITS FALSE NEIGHBOUR: 'it returns false'. Refute it at one input. -/
def fnExactBridgesOfWrong : ChangeSpec := { name := "fnExactBridgesOf", fn := fun _ => fun
  | [d1, d2] => { results := [.lit (.bool false)], args := [d1, d2] }
  | _ => none }
def FnExactBridgesOfWrongFalsely : Prop := fnExactBridgesOfRow.holds Try.pinned (OpenSpec.ofChange fnExactBridgesOfWrong)

/-- 'laws.FnExactSwapEnds': WHATEVER THE INPUT: true; the input reads as it did. -/
def fnExactSwapEndsSpec : ChangeSpec := { name := "fnExactSwapEnds", fn := fun _ => fun
  | [d1, d2, d3, d4] => { results := [.lit (.bool true)], args := [d1, d2, d3, d4] }
  | _ => none }
def fnExactSwapEndsRow : OpenClaim := { program := "ytlglchbkenaekaa", sum := "93b5b0e56bf3206649357f642f63b2a7247130e212fa8657569e330f5c7533ed", func := "loop.example/g03105/laws.FnExactSwapEnds", spec := "fnExactSwapEnds", apart := false }
def FnExactSwapEndsSaid : Prop := fnExactSwapEndsRow.holds Try.pinned (OpenSpec.ofChange fnExactSwapEndsSpec)

/-- ITS FALSE NEIGHBOUR: 'it returns false'. Refute it at one input. -/
def fnExactSwapEndsWrong : ChangeSpec := { name := "fnExactSwapEnds", fn := fun _ => fun
  | [d1, d2, d3, d4] => { results := [.lit (.bool false)], args := [d1, d2, d3, d4] }
  | _ => none }
def FnExactSwapEndsWrongFalsely : Prop := fnExactSwapEndsRow.holds Try.pinned (OpenSpec.ofChange fnExactSwapEndsWrong)

/-- 'laws.FnExactLeastPants': WHATEVER THE INPUT: true; the input reads as it did. -/
def fnExactLeastPantsSpec : ChangeSpec := { name := "fnExactLeastPants", fn := fun _ => fun
  | [d1, d2] => { results := [.lit (.bool true)], args := [d1, d2] }
  | _ => none }
def fnExactLeastPantsRow : OpenClaim := { program := "ytlglchbkenaekaa", sum := "93b5b0e56bf3206649357f642f63b2a7247130e212fa8657569e330f5c7533ed", func := "loop.example/g03105/laws.FnExactLeastPants", spec := "fnExactLeastPants", unfollowed := true, recurses := true, apart := false }
def FnExactLeastPantsSaid : Prop := fnExactLeastPantsRow.holds Try.pinned (OpenSpec.ofChange fnExactLeastPantsSpec)

/-- ITS FALSE NEIGHBOUR: 'it returns false'. Refute it at one input. -/
def fnExactLeastPantsWrong : ChangeSpec := { name := "fnExactLeastPants", fn := fun _ => fun
  | [d1, d2] => { results := [.lit (.bool false)], args := [d1, d2] }
  | _ => none }
def FnExactLeastPantsWrongFalsely : Prop := fnExactLeastPantsRow.holds Try.pinned (OpenSpec.ofChange fnExactLeastPantsWrong)

/-- 'laws.FnExactExamplePants': WHATEVER THE INPUT: true; the input reads as it did. -/
def fnExactExamplePantsSpec : ChangeSpec := { name := "fnExactExamplePants", fn := fun _ => fun
  | [d] => { results := [.lit (.bool true)], args := [d] }
  | _ => none }
def fnExactExamplePantsRow : OpenClaim := { program := "ytlglchbkenaekaa", sum := "93b5b0e56bf3206649357f642f63b2a7247130e212fa8657569e330f5c7533ed", func := "loop.example/g03105/laws.FnExactExamplePants", spec := "fnExactExamplePants", unfollowed := true, recurses := true, apart := false }
def FnExactExamplePantsSaid : Prop := fnExactExamplePantsRow.holds Try.pinned (OpenSpec.ofChange fnExactExamplePantsSpec)

/-- ITS FALSE NEIGHBOUR: 'it returns false'. Refute it at one input. -/
def fnExactExamplePantsWrong : ChangeSpec := { name := "fnExactExamplePants", fn := fun _ => fun
  | [d] => { results := [.lit (.bool false)], args := [d] }
  | _ => none }
def FnExactExamplePantsWrongFalsely : Prop := fnExactExamplePantsRow.holds Try.pinned (OpenSpec.ofChange fnExactExamplePantsWrong)

/-- 'laws.FnExactPantsOf': WHATEVER THE INPUT: true; the input reads as it did. -/
def fnExactPantsOfSpec : ChangeSpec := { name := "fnExactPantsOf", fn := fun _ => fun
  | [d] => { results := [.lit (.bool true)], args := [d] }
  | _ => none }
def fnExactPantsOfRow : OpenClaim := { program := "ytlglchbkenaekaa", sum := "93b5b0e56bf3206649357f642f63b2a7247130e212fa8657569e330f5c7533ed", func := "loop.example/g03105/laws.FnExactPantsOf", spec := "fnExactPantsOf", unfollowed := true, recurses := true, apart := false }
def FnExactPantsOfSaid : Prop := fnExactPantsOfRow.holds Try.pinned (OpenSpec.ofChange fnExactPantsOfSpec)

/-- ITS FALSE NEIGHBOUR: 'it returns false'. Refute it at one input. -/
def fnExactPantsOfWrong : ChangeSpec := { name := "fnExactPantsOf", fn := fun _ => fun
  | [d] => { results := [.lit (.bool false)], args := [d] }
  | _ => none }
def FnExactPantsOfWrongFalsely : Prop := fnExactPantsOfRow.holds Try.pinned (OpenSpec.ofChange fnExactPantsOfWrong)

/-- 'laws.FnExactPantsDistance': WHATEVER THE INPUT: true; the input reads as it did. -/
def fnExactPantsDistanceSpec : ChangeSpec := { name := "fnExactPantsDistance", fn := fun _ => fun
  | [d1, d2, d3] => { results := [.lit (.bool true)], args := [d1, d2, d3] }
  | _ => none }
def fnExactPantsDistanceRow : OpenClaim := { program := "ytlglchbkenaekaa", sum := "93b5b0e56bf3206649357f642f63b2a7247130e212fa8657569e330f5c7533ed", func := "loop.example/g03105/laws.FnExactPantsDistance", spec := "fnExactPantsDistance", unfollowed := true, recurses := true, apart := false }
def FnExactPantsDistanceSaid : Prop := fnExactPantsDistanceRow.holds Try.pinned (OpenSpec.ofChange fnExactPantsDistanceSpec)

/-- ITS FALSE NEIGHBOUR: 'it returns false'. Refute it at one input. -/
def fnExactPantsDistanceWrong : ChangeSpec := { name := "fnExactPantsDistance", fn := fun _ => fun
  | [d1, d2, d3] => { results := [.lit (.bool false)], args := [d1, d2, d3] }
  | _ => none }
def FnExactPantsDistanceWrongFalsely : Prop := fnExactPantsDistanceRow.holds Try.pinned (OpenSpec.ofChange fnExactPantsDistanceWrong)

/-- 'laws.FnExactPantsFrom': WHATEVER THE INPUT: true; the input reads as it did. -/
def fnExactPantsFromSpec : ChangeSpec := { name := "fnExactPantsFrom", fn := fun _ => fun
  | [d1, d2] => { results := [.lit (.bool true)], args := [d1, d2] }
  | _ => none }
def fnExactPantsFromRow : OpenClaim := { program := "ytlglchbkenaekaa", sum := "93b5b0e56bf3206649357f642f63b2a7247130e212fa8657569e330f5c7533ed", func := "loop.example/g03105/laws.FnExactPantsFrom", spec := "fnExactPantsFrom", unfollowed := true, recurses := true, apart := false }
def FnExactPantsFromSaid : Prop := fnExactPantsFromRow.holds Try.pinned (OpenSpec.ofChange fnExactPantsFromSpec)

/-- ITS FALSE NEIGHBOUR: 'it returns false'. Refute it at one input. -/
def fnExactPantsFromWrong : ChangeSpec := { name := "fnExactPantsFrom", fn := fun _ => fun
  | [d1, d2] => { results := [.lit (.bool false)], args := [d1, d2] }
  | _ => none }
def FnExactPantsFromWrongFalsely : Prop := fnExactPantsFromRow.holds Try.pinned (OpenSpec.ofChange fnExactPantsFromWrong)

/-- 'laws.FnExamples': WHATEVER THE INPUT: true; the input reads as it did. -/
def fnExamplesSpec : ChangeSpec := { name := "fnExamples", fn := fun _ => fun
  | [d] => { results := [.lit (.bool true)], args := [d] }
  | _ => none }
def fnExamplesRow : OpenClaim := { program := "ytlglchbkenaekaa", sum := "93b5b0e56bf3206649357f642f63b2a7247130e212fa8657569e330f5c7533ed", func := "loop.example/g03105/laws.FnExamples", spec := "fnExamples", unfollowed := true, recurses := true, apart := false }
def FnExamplesSaid : Prop := fnExamplesRow.holds Try.pinned (OpenSpec.ofChange fnExamplesSpec)

/-- ITS FALSE NEIGHBOUR: 'it returns false'. Refute it at one input. -/
def fnExamplesWrong : ChangeSpec := { name := "fnExamples", fn := fun _ => fun
  | [d] => { results := [.lit (.bool false)], args := [d] }
  | _ => none }
def FnExamplesWrongFalsely : Prop := fnExamplesRow.holds Try.pinned (OpenSpec.ofChange fnExamplesWrong)

/- THE SECOND FORM. 'bulk': how many values and letters a reading holds, each counted each time it is reached (what is shared counts as often as it is met; a slice's spare places count too). A statement '..UptoSaid' is the law's where the arguments, and the package variables that the reading takes, are together of bulk at most 1048576: NARROWER than '..Said'. Prove '..Said' where nothing that the law and all that it calls make is longer than what came in: it says more and counts as full. Else prove '..UptoSaid'. A law counts once. -/
mutual
def uptoBulk {H : Type} : DataW H → Nat
  | .lit (.string bytes) => bytes.length + 1
  | .lit _ => 1
  | .nil => 1
  | .ptr d => uptoBulk d + 1
  | .slice elems spare => uptoBulkAll elems + uptoBulkAll spare + 1
  | .agg parts => uptoBulkAll parts + 1
  | .iface _ d => uptoBulk d + 1
  | .map entries => uptoBulkEntries entries + 1
  | .held _ => 1
def uptoBulkAll {H : Type} : List (DataW H) → Nat
  | [] => 0
  | d :: r => uptoBulk d + uptoBulkAll r
def uptoBulkEntries {H : Type} : List (Lit × DataW H) → Nat
  | [] => 0
  | x :: r => uptoBulkEntry x + uptoBulkEntries r
def uptoBulkEntry {H : Type} : Lit × DataW H → Nat
  | (.string bytes, d) => bytes.length + uptoBulk d + 1
  | (_, d) => uptoBulk d + 1
 end
def uptoSmall : (H : Type) → List (DataW H) → Bool := fun _ ds => decide (uptoBulkAll ds ≤ 1048576)
def OpenSpec.upto (s : _root_.Go.ChangeSpec) : _root_.Go.OpenSpec := { _root_.Go.OpenSpec.ofChange s with cond := some uptoSmall }

/-- 'laws.FnExactIsPants', WHERE WHAT IT READS IS OF BULK AT MOST 1048576: true; the input reads as it did. -/
def fnExactIsPantsUptoRow : OpenClaim := { program := "ytlglchbkenaekaa", sum := "93b5b0e56bf3206649357f642f63b2a7247130e212fa8657569e330f5c7533ed", func := "loop.example/g03105/laws.FnExactIsPants", spec := "fnExactIsPants", apart := false, narrowed := true }
def FnExactIsPantsUptoSaid : Prop := fnExactIsPantsUptoRow.holds Try.pinned (OpenSpec.upto fnExactIsPantsSpec)

/-- 'laws.FnExactBridgesOf', WHERE WHAT IT READS IS OF BULK AT MOST 1048576: true; the input reads as it did. -/
def fnExactBridgesOfUptoRow : OpenClaim := { program := "ytlglchbkenaekaa", sum := "93b5b0e56bf3206649357f642f63b2a7247130e212fa8657569e330f5c7533ed", func := "loop.example/g03105/laws.FnExactBridgesOf", spec := "fnExactBridgesOf", apart := false, narrowed := true }
def FnExactBridgesOfUptoSaid : Prop := fnExactBridgesOfUptoRow.holds Try.pinned (OpenSpec.upto fnExactBridgesOfSpec)

/-- 'laws.FnExactSwapEnds', WHERE WHAT IT READS IS OF BULK AT MOST 1048576: true; the input reads as it did. -/
def fnExactSwapEndsUptoRow : OpenClaim := { program := "ytlglchbkenaekaa", sum := "93b5b0e56bf3206649357f642f63b2a7247130e212fa8657569e330f5c7533ed", func := "loop.example/g03105/laws.FnExactSwapEnds", spec := "fnExactSwapEnds", apart := false, narrowed := true }
def FnExactSwapEndsUptoSaid : Prop := fnExactSwapEndsUptoRow.holds Try.pinned (OpenSpec.upto fnExactSwapEndsSpec)

/-- 'laws.FnExactLeastPants', WHERE WHAT IT READS IS OF BULK AT MOST 1048576: true; the input reads as it did. -/
def fnExactLeastPantsUptoRow : OpenClaim := { program := "ytlglchbkenaekaa", sum := "93b5b0e56bf3206649357f642f63b2a7247130e212fa8657569e330f5c7533ed", func := "loop.example/g03105/laws.FnExactLeastPants", spec := "fnExactLeastPants", unfollowed := true, recurses := true, apart := false, narrowed := true }
def FnExactLeastPantsUptoSaid : Prop := fnExactLeastPantsUptoRow.holds Try.pinned (OpenSpec.upto fnExactLeastPantsSpec)

/-- 'laws.FnExactExamplePants', WHERE WHAT IT READS IS OF BULK AT MOST 1048576: true; the input reads as it did. -/
def fnExactExamplePantsUptoRow : OpenClaim := { program := "ytlglchbkenaekaa", sum := "93b5b0e56bf3206649357f642f63b2a7247130e212fa8657569e330f5c7533ed", func := "loop.example/g03105/laws.FnExactExamplePants", spec := "fnExactExamplePants", unfollowed := true, recurses := true, apart := false, narrowed := true }
def FnExactExamplePantsUptoSaid : Prop := fnExactExamplePantsUptoRow.holds Try.pinned (OpenSpec.upto fnExactExamplePantsSpec)

/-- 'laws.FnExactPantsOf', WHERE WHAT IT READS IS OF BULK AT MOST 1048576: true; the input reads as it did. -/
def fnExactPantsOfUptoRow : OpenClaim := { program := "ytlglchbkenaekaa", sum := "93b5b0e56bf3206649357f642f63b2a7247130e212fa8657569e330f5c7533ed", func := "loop.example/g03105/laws.FnExactPantsOf", spec := "fnExactPantsOf", unfollowed := true, recurses := true, apart := false, narrowed := true }
def FnExactPantsOfUptoSaid : Prop := fnExactPantsOfUptoRow.holds Try.pinned (OpenSpec.upto fnExactPantsOfSpec)

/-- 'laws.FnExactPantsDistance', WHERE WHAT IT READS IS OF BULK AT MOST 1048576: true; the input reads as it did. -/
def fnExactPantsDistanceUptoRow : OpenClaim := { program := "ytlglchbkenaekaa", sum := "93b5b0e56bf3206649357f642f63b2a7247130e212fa8657569e330f5c7533ed", func := "loop.example/g03105/laws.FnExactPantsDistance", spec := "fnExactPantsDistance", unfollowed := true, recurses := true, apart := false, narrowed := true }
def FnExactPantsDistanceUptoSaid : Prop := fnExactPantsDistanceUptoRow.holds Try.pinned (OpenSpec.upto fnExactPantsDistanceSpec)

/-- 'laws.FnExactPantsFrom', WHERE WHAT IT READS IS OF BULK AT MOST 1048576: true; the input reads as it did. -/
def fnExactPantsFromUptoRow : OpenClaim := { program := "ytlglchbkenaekaa", sum := "93b5b0e56bf3206649357f642f63b2a7247130e212fa8657569e330f5c7533ed", func := "loop.example/g03105/laws.FnExactPantsFrom", spec := "fnExactPantsFrom", unfollowed := true, recurses := true, apart := false, narrowed := true }
def FnExactPantsFromUptoSaid : Prop := fnExactPantsFromUptoRow.holds Try.pinned (OpenSpec.upto fnExactPantsFromSpec)

/-- 'laws.FnExamples', WHERE WHAT IT READS IS OF BULK AT MOST 1048576: true; the input reads as it did. -/
def fnExamplesUptoRow : OpenClaim := { program := "ytlglchbkenaekaa", sum := "93b5b0e56bf3206649357f642f63b2a7247130e212fa8657569e330f5c7533ed", func := "loop.example/g03105/laws.FnExamples", spec := "fnExamples", unfollowed := true, recurses := true, apart := false, narrowed := true }
def FnExamplesUptoSaid : Prop := fnExamplesUptoRow.holds Try.pinned (OpenSpec.upto fnExamplesSpec)

end Rows
end Go.Proofs.Ytlglchbkenaekaa
