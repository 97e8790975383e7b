/-
  No cell of these rows narrows 'for every input' (looked for: loops, veiled, ifaces, maps, wideKeys, modest, calm, conditions, laid).
  DERIVED. THE GIVEN ROWS OF THIS SEAT. 5 by the template 'for every input the law returns true; each argument reads behind the call as it read before'; 0 by the template 'total and deterministic' (their statements: YtaoepnmhflmhhaaTotals.lean).
  GIVEN WITH THE SEED: the statements are not yours to turn. If you find one false, say at which input.
  Laid BY PROGRAM, IN A SANDBOX (cutbox-rows.mjs): the forced cells as the released guide's own fill.sh prints them over the translation 430fe7e2c139d5a7… (all of the seat's roots in one cut). By AI agents, Wed Nov 11 2026. No macro, syntax, notation, axiom, sorry.
-/
import Derived.Test.YtaoepnmhflmhhaaChecked
import GoSem.Claim
import GoSem.ClaimJoined
import GoSem.ClaimMapViews
import Derived.JoinedTies
import Derived.KernelRfl
namespace Go.Proofs.Ytaoepnmhflmhhaa
/- THE CELL 'sum', in the pinned program and in every row, IS THE sha256 OF THE DUMP (.gsa) THAT YtaoepnmhflmhhaaProg.lean LOADS. Nothing in Lean hashes anything: it is a label: what it is worth is what the hold of that sum in a sandbox is worth. -/
noncomputable def Try.pinned : Pinned := { name := "ytaoepnmhflmhhaa", sum := "430fe7e2c139d5a72105a29b5e17e41a7ba1e3f89a060ffed6ce38d92f8415a1", checked := Try.checked }
namespace Rows
def none {H : Type} : Left H := { results := [], args := [] }

/-- 'laws.FnExactExampleGluing': WHATEVER THE INPUT: true; the input reads as it did. -/
def fnExactExampleGluingSpec : ChangeSpec := { name := "fnExactExampleGluing", fn := fun _ => fun
  | [d] => { results := [.lit (.bool true)], args := [d] }
  | _ => none }
def fnExactExampleGluingRow : OpenClaim := { program := "ytaoepnmhflmhhaa", sum := "430fe7e2c139d5a72105a29b5e17e41a7ba1e3f89a060ffed6ce38d92f8415a1", func := "loop.example/g03105/laws.FnExactExampleGluing", spec := "fnExactExampleGluing", apart := false }
def FnExactExampleGluingSaid : Prop := fnExactExampleGluingRow.holds Try.pinned (OpenSpec.ofChange fnExactExampleGluingSpec)

/-- ITS FALSE NEIGHBOUR: 'it returns false'. Refute it at one input. -/
def fnExactExampleGluingWrong : ChangeSpec := { name := "fnExactExampleGluing", fn := fun _ => fun
  | [d] => { results := [.lit (.bool false)], args := [d] }
  | _ => none }
def FnExactExampleGluingWrongFalsely : Prop := fnExactExampleGluingRow.holds Try.pinned (OpenSpec.ofChange fnExactExampleGluingWrong)

/-- 'laws.FnExactExampleTri': WHATEVER THE INPUT: true; the input reads as it did. -/
def fnExactExampleTriSpec : ChangeSpec := { name := "fnExactExampleTri", fn := fun _ => fun
  | [d] => { results := [.lit (.bool true)], args := [d] }
  | _ => none }
def fnExactExampleTriRow : OpenClaim := { program := "ytaoepnmhflmhhaa", sum := "430fe7e2c139d5a72105a29b5e17e41a7ba1e3f89a060ffed6ce38d92f8415a1", func := "loop.example/g03105/laws.FnExactExampleTri", spec := "fnExactExampleTri", apart := false }
def FnExactExampleTriSaid : Prop := fnExactExampleTriRow.holds Try.pinned (OpenSpec.ofChange fnExactExampleTriSpec)

/-- ITS FALSE NEIGHBOUR: 'it returns false'. Refute it at one input. -/
def fnExactExampleTriWrong : ChangeSpec := { name := "fnExactExampleTri", fn := fun _ => fun
  | [d] => { results := [.lit (.bool false)], args := [d] }
  | _ => none }
def FnExactExampleTriWrongFalsely : Prop := fnExactExampleTriRow.holds Try.pinned (OpenSpec.ofChange fnExactExampleTriWrong)

/-- 'laws.FnExactMoveWord': WHATEVER THE INPUT: true; the input reads as it did. -/
def fnExactMoveWordSpec : ChangeSpec := { name := "fnExactMoveWord", fn := fun _ => fun
  | [d1, d2] => { results := [.lit (.bool true)], args := [d1, d2] }
  | _ => none }
def fnExactMoveWordRow : OpenClaim := { program := "ytaoepnmhflmhhaa", sum := "430fe7e2c139d5a72105a29b5e17e41a7ba1e3f89a060ffed6ce38d92f8415a1", func := "loop.example/g03105/laws.FnExactMoveWord", spec := "fnExactMoveWord", apart := false }
def FnExactMoveWordSaid : Prop := fnExactMoveWordRow.holds Try.pinned (OpenSpec.ofChange fnExactMoveWordSpec)

/-- ITS FALSE NEIGHBOUR: 'it returns false'. Refute it at one input. -/
def fnExactMoveWordWrong : ChangeSpec := { name := "fnExactMoveWord", fn := fun _ => fun
  | [d1, d2] => { results := [.lit (.bool false)], args := [d1, d2] }
  | _ => none }
def FnExactMoveWordWrongFalsely : Prop := fnExactMoveWordRow.holds Try.pinned (OpenSpec.ofChange fnExactMoveWordWrong)

/-- 'laws.FnExactNewSession': WHATEVER THE INPUT: true; the input reads as it did. -/
def fnExactNewSessionSpec : ChangeSpec := { name := "fnExactNewSession", fn := fun _ => fun
  | [] => { results := [.lit (.bool true)], args := [] }
  | _ => none }
def fnExactNewSessionRow : OpenClaim := { program := "ytaoepnmhflmhhaa", sum := "430fe7e2c139d5a72105a29b5e17e41a7ba1e3f89a060ffed6ce38d92f8415a1", func := "loop.example/g03105/laws.FnExactNewSession", spec := "fnExactNewSession", apart := false }
def FnExactNewSessionSaid : Prop := fnExactNewSessionRow.holds Try.pinned (OpenSpec.ofChange fnExactNewSessionSpec)

/-- ITS FALSE NEIGHBOUR: 'it returns false'. Refute it at one input. -/
def fnExactNewSessionWrong : ChangeSpec := { name := "fnExactNewSession", fn := fun _ => fun
  | [] => { results := [.lit (.bool false)], args := [] }
  | _ => none }
def FnExactNewSessionWrongFalsely : Prop := fnExactNewSessionRow.holds Try.pinned (OpenSpec.ofChange fnExactNewSessionWrong)

/-- 'laws.FnCuts': WHATEVER THE INPUT: true; the input reads as it did. -/
def fnCutsSpec : ChangeSpec := { name := "fnCuts", fn := fun _ => fun
  | [d] => { results := [.lit (.bool true)], args := [d] }
  | _ => none }
def fnCutsRow : OpenClaim := { program := "ytaoepnmhflmhhaa", sum := "430fe7e2c139d5a72105a29b5e17e41a7ba1e3f89a060ffed6ce38d92f8415a1", func := "loop.example/g03105/laws.FnCuts", spec := "fnCuts", apart := false }
def FnCutsSaid : Prop := fnCutsRow.holds Try.pinned (OpenSpec.ofChange fnCutsSpec)

/-- ITS FALSE NEIGHBOUR: 'it returns false'. Refute it at one input. -/
def fnCutsWrong : ChangeSpec := { name := "fnCuts", fn := fun _ => fun
  | [d] => { results := [.lit (.bool false)], args := [d] }
  | _ => none }
def FnCutsWrongFalsely : Prop := fnCutsRow.holds Try.pinned (OpenSpec.ofChange fnCutsWrong)

/- THE SECOND FORM. 'bulk': how many values and letters a reading holds, each counted each time it is reached (what is shared counts as often as it is met; a slice's spare places count too). A statement '..UptoSaid' is the law's where the arguments, and the package variables that the reading takes, are together of bulk at most 1048576: NARROWER than '..Said'. Prove '..Said' where nothing that the law and all that it calls make is longer than what came in: it says more and counts as full. Else prove '..UptoSaid'. A law counts once. -/
mutual
def uptoBulk {H : Type} : DataW H → Nat
  | .lit (.string bytes) => bytes.length + 1
  | .lit _ => 1
  | .nil => 1
  | .ptr d => uptoBulk d + 1
  | .slice elems spare => uptoBulkAll elems + uptoBulkAll spare + 1
  | .agg parts => uptoBulkAll parts + 1
  | .iface _ d => uptoBulk d + 1
  | .map entries => uptoBulkEntries entries + 1
  | .held _ => 1
def uptoBulkAll {H : Type} : List (DataW H) → Nat
  | [] => 0
  | d :: r => uptoBulk d + uptoBulkAll r
def uptoBulkEntries {H : Type} : List (Lit × DataW H) → Nat
  | [] => 0
  | x :: r => uptoBulkEntry x + uptoBulkEntries r
def uptoBulkEntry {H : Type} : Lit × DataW H → Nat
  | (.string bytes, d) => bytes.length + uptoBulk d + 1
  | (_, d) => uptoBulk d + 1
 end
def uptoSmall : (H : Type) → List (DataW H) → Bool := fun _ ds => decide (uptoBulkAll ds ≤ 1048576)
def OpenSpec.upto (s : _root_.Go.ChangeSpec) : _root_.Go.OpenSpec := { _root_.Go.OpenSpec.ofChange s with cond := some uptoSmall }

/-- 'laws.FnExactExampleGluing', WHERE WHAT IT READS IS OF BULK AT MOST 1048576: true; the input reads as it did. -/
def fnExactExampleGluingUptoRow : OpenClaim := { program := "ytaoepnmhflmhhaa", sum := "430fe7e2c139d5a72105a29b5e17e41a7ba1e3f89a060ffed6ce38d92f8415a1", func := "loop.example/g03105/laws.FnExactExampleGluing", spec := "fnExactExampleGluing", apart := false, narrowed := true }
def FnExactExampleGluingUptoSaid : Prop := fnExactExampleGluingUptoRow.holds Try.pinned (OpenSpec.upto fnExactExampleGluingSpec)

/-- 'laws.FnExactExampleTri', WHERE WHAT IT READS IS OF BULK AT MOST 1048576: true; the input reads as it did. -/
def fnExactExampleTriUptoRow : OpenClaim := { program := "ytaoepnmhflmhhaa", sum := "430fe7e2c139d5a72105a29b5e17e41a7ba1e3f89a060ffed6ce38d92f8415a1", func := "loop.example/g03105/laws.FnExactExampleTri", spec := "fnExactExampleTri", apart := false, narrowed := true }
def FnExactExampleTriUptoSaid : Prop := fnExactExampleTriUptoRow.holds Try.pinned (OpenSpec.upto fnExactExampleTriSpec)

/-- 'laws.FnExactMoveWord', WHERE WHAT IT READS IS OF BULK AT MOST 1048576: true; the input reads as it did. -/
def fnExactMoveWordUptoRow : OpenClaim := { program := "ytaoepnmhflmhhaa", sum := "430fe7e2c139d5a72105a29b5e17e41a7ba1e3f89a060ffed6ce38d92f8415a1", func := "loop.example/g03105/laws.FnExactMoveWord", spec := "fnExactMoveWord", apart := false, narrowed := true }
def FnExactMoveWordUptoSaid : Prop := fnExactMoveWordUptoRow.holds Try.pinned (OpenSpec.upto fnExactMoveWordSpec)

/-- 'laws.FnExactNewSession', WHERE WHAT IT READS IS OF BULK AT MOST 1048576: true; the input reads as it did. -/
def fnExactNewSessionUptoRow : OpenClaim := { program := "ytaoepnmhflmhhaa", sum := "430fe7e2c139d5a72105a29b5e17e41a7ba1e3f89a060ffed6ce38d92f8415a1", func := "loop.example/g03105/laws.FnExactNewSession", spec := "fnExactNewSession", apart := false, narrowed := true }
def FnExactNewSessionUptoSaid : Prop := fnExactNewSessionUptoRow.holds Try.pinned (OpenSpec.upto fnExactNewSessionSpec)

/-- 'laws.FnCuts', WHERE WHAT IT READS IS OF BULK AT MOST 1048576: true; the input reads as it did. -/
def fnCutsUptoRow : OpenClaim := { program := "ytaoepnmhflmhhaa", sum := "430fe7e2c139d5a72105a29b5e17e41a7ba1e3f89a060ffed6ce38d92f8415a1", func := "loop.example/g03105/laws.FnCuts", spec := "fnCuts", apart := false, narrowed := true }
def FnCutsUptoSaid : Prop := fnCutsUptoRow.holds Try.pinned (OpenSpec.upto fnCutsSpec)

end Rows
end Go.Proofs.Ytaoepnmhflmhhaa
