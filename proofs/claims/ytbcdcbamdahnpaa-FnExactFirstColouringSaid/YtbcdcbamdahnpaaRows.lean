/-
  No cell of these rows narrows 'for every input' (looked for: loops, veiled, ifaces, maps, wideKeys, modest, calm, conditions, laid).
  DERIVED. THE GIVEN ROWS OF THIS SEAT. 5 by the template 'for every input the law returns true; each argument reads behind the call as it read before'; 0 by the template 'total and deterministic' (their statements: YtbcdcbamdahnpaaTotals.lean).
  GIVEN WITH THE SEED: the statements are not yours to turn. If you find one false, say at which input.
  Laid BY PROGRAM, IN A SANDBOX (cutbox-rows.mjs): the forced cells as the released guide's own fill.sh prints them over the translation 3a2476f6301cefa7… (all of the seat's roots in one cut). By AI agents, Wed Nov 11 2026. No macro, syntax, notation, axiom, sorry.
-/
import Derived.Test.YtbcdcbamdahnpaaChecked
import GoSem.Claim
import GoSem.ClaimJoined
import GoSem.ClaimMapViews
import Derived.JoinedTies
import Derived.KernelRfl
namespace Go.Proofs.Ytbcdcbamdahnpaa
/- THE CELL 'sum', in the pinned program and in every row, IS THE sha256 OF THE DUMP (.gsa) THAT YtbcdcbamdahnpaaProg.lean LOADS. Nothing in Lean hashes anything: it is a label: what it is worth is what the hold of that sum in a sandbox is worth. -/
noncomputable def Try.pinned : Pinned := { name := "ytbcdcbamdahnpaa", sum := "3a2476f6301cefa7afb688c5929fcc803e7ae2d00adda1a04a365fa8ebcc350e", checked := Try.checked }
namespace Rows
def none {H : Type} : Left H := { results := [], args := [] }

/-- 'laws.FnExactIsColouring': WHATEVER THE INPUT: true; the input reads as it did. -/
def fnExactIsColouringSpec : ChangeSpec := { name := "fnExactIsColouring", fn := fun _ => fun
  | [d1, d2] => { results := [.lit (.bool true)], args := [d1, d2] }
  | _ => none }
def fnExactIsColouringRow : OpenClaim := { program := "ytbcdcbamdahnpaa", sum := "3a2476f6301cefa7afb688c5929fcc803e7ae2d00adda1a04a365fa8ebcc350e", func := "loop.example/g03105/laws.FnExactIsColouring", spec := "fnExactIsColouring", apart := false }
def FnExactIsColouringSaid : Prop := fnExactIsColouringRow.holds Try.pinned (OpenSpec.ofChange fnExactIsColouringSpec)

/-- ITS FALSE NEIGHBOUR: 'it returns false'. Refute it at one input. -/
def fnExactIsColouringWrong : ChangeSpec := { name := "fnExactIsColouring", fn := fun _ => fun
  | [d1, d2] => { results := [.lit (.bool false)], args := [d1, d2] }
  | _ => none }
def FnExactIsColouringWrongFalsely : Prop := fnExactIsColouringRow.holds Try.pinned (OpenSpec.ofChange fnExactIsColouringWrong)

/-- 'laws.FnExactFewestColours': WHATEVER THE INPUT: true; the input reads as it did. -/
def fnExactFewestColoursSpec : ChangeSpec := { name := "fnExactFewestColours", fn := fun _ => fun
  | [d] => { results := [.lit (.bool true)], args := [d] }
  | _ => none }
def fnExactFewestColoursRow : OpenClaim := { program := "ytbcdcbamdahnpaa", sum := "3a2476f6301cefa7afb688c5929fcc803e7ae2d00adda1a04a365fa8ebcc350e", func := "loop.example/g03105/laws.FnExactFewestColours", spec := "fnExactFewestColours", unfollowed := true, recurses := true, apart := false }
def FnExactFewestColoursSaid : Prop := fnExactFewestColoursRow.holds Try.pinned (OpenSpec.ofChange fnExactFewestColoursSpec)

/-- ITS FALSE NEIGHBOUR: 'it returns false'. Refute it at one input. -/
def fnExactFewestColoursWrong : ChangeSpec := { name := "fnExactFewestColours", fn := fun _ => fun
  | [d] => { results := [.lit (.bool false)], args := [d] }
  | _ => none }
def FnExactFewestColoursWrongFalsely : Prop := fnExactFewestColoursRow.holds Try.pinned (OpenSpec.ofChange fnExactFewestColoursWrong)

/-- 'laws.FnExactFirstColouring': WHATEVER THE INPUT: true; the input reads as it did. -/
def fnExactFirstColouringSpec : ChangeSpec := { name := "fnExactFirstColouring", fn := fun _ => fun
  | [d1, d2] => { results := [.lit (.bool true)], args := [d1, d2] }
  | _ => none }
def fnExactFirstColouringRow : OpenClaim := { program := "ytbcdcbamdahnpaa", sum := "3a2476f6301cefa7afb688c5929fcc803e7ae2d00adda1a04a365fa8ebcc350e", func := "loop.example/g03105/laws.FnExactFirstColouring", spec := "fnExactFirstColouring", unfollowed := true, recurses := true, apart := false }
def FnExactFirstColouringSaid : Prop := fnExactFirstColouringRow.holds Try.pinned (OpenSpec.ofChange fnExactFirstColouringSpec)

/-- ITS FALSE NEIGHBOUR: 'it returns false'. Refute it at one input. -/
def fnExactFirstColouringWrong : ChangeSpec := { name := "fnExactFirstColouring", fn := fun _ => fun
  | [d1, d2] => { results := [.lit (.bool false)], args := [d1, d2] }
  | _ => none }
def FnExactFirstColouringWrongFalsely : Prop := fnExactFirstColouringRow.holds Try.pinned (OpenSpec.ofChange fnExactFirstColouringWrong)

/-- 'laws.FnColours': WHATEVER THE INPUT: true; the input reads as it did. -/
def fnColoursSpec : ChangeSpec := { name := "fnColours", fn := fun _ => fun
  | [d] => { results := [.lit (.bool true)], args := [d] }
  | _ => none }
def fnColoursRow : OpenClaim := { program := "ytbcdcbamdahnpaa", sum := "3a2476f6301cefa7afb688c5929fcc803e7ae2d00adda1a04a365fa8ebcc350e", func := "loop.example/g03105/laws.FnColours", spec := "fnColours", unfollowed := true, recurses := true, apart := false }
def FnColoursSaid : Prop := fnColoursRow.holds Try.pinned (OpenSpec.ofChange fnColoursSpec)

/-- ITS FALSE NEIGHBOUR: 'it returns false'. Refute it at one input. -/
def fnColoursWrong : ChangeSpec := { name := "fnColours", fn := fun _ => fun
  | [d] => { results := [.lit (.bool false)], args := [d] }
  | _ => none }
def FnColoursWrongFalsely : Prop := fnColoursRow.holds Try.pinned (OpenSpec.ofChange fnColoursWrong)

/-- 'laws.FnCuts': WHATEVER THE INPUT: true; the input reads as it did. -/
def fnCutsSpec : ChangeSpec := { name := "fnCuts", fn := fun _ => fun
  | [d] => { results := [.lit (.bool true)], args := [d] }
  | _ => none }
def fnCutsRow : OpenClaim := { program := "ytbcdcbamdahnpaa", sum := "3a2476f6301cefa7afb688c5929fcc803e7ae2d00adda1a04a365fa8ebcc350e", func := "loop.example/g03105/laws.FnCuts", spec := "fnCuts", apart := false }
def FnCutsSaid : Prop := fnCutsRow.holds Try.pinned (OpenSpec.ofChange fnCutsSpec)

/-- ITS FALSE NEIGHBOUR: 'it returns false'. Refute it at one input. -/
def fnCutsWrong : ChangeSpec := { name := "fnCuts", fn := fun _ => fun
  | [d] => { results := [.lit (.bool false)], args := [d] }
  | _ => none }
def FnCutsWrongFalsely : Prop := fnCutsRow.holds Try.pinned (OpenSpec.ofChange fnCutsWrong)

/- THE SECOND FORM. 'bulk': how many values and letters a reading holds, each counted each time it is reached (what is shared counts as often as it is met; a slice's spare places count too). A statement '..UptoSaid' is the law's where the arguments, and the package variables that the reading takes, are together of bulk at most 1048576: NARROWER than '..Said'. Prove '..Said' where nothing that the law and all that it calls make is longer than what came in: it says more and counts as full. Else prove '..UptoSaid'. A law counts once. -/
mutual
def uptoBulk {H : Type} : DataW H → Nat
  | .lit (.string bytes) => bytes.length + 1
  | .lit _ => 1
  | .nil => 1
  | .ptr d => uptoBulk d + 1
  | .slice elems spare => uptoBulkAll elems + uptoBulkAll spare + 1
  | .agg parts => uptoBulkAll parts + 1
  | .iface _ d => uptoBulk d + 1
  | .map entries => uptoBulkEntries entries + 1
  | .held _ => 1
def uptoBulkAll {H : Type} : List (DataW H) → Nat
  | [] => 0
  | d :: r => uptoBulk d + uptoBulkAll r
def uptoBulkEntries {H : Type} : List (Lit × DataW H) → Nat
  | [] => 0
  | x :: r => uptoBulkEntry x + uptoBulkEntries r
def uptoBulkEntry {H : Type} : Lit × DataW H → Nat
  | (.string bytes, d) => bytes.length + uptoBulk d + 1
  | (_, d) => uptoBulk d + 1
 end
def uptoSmall : (H : Type) → List (DataW H) → Bool := fun _ ds => decide (uptoBulkAll ds ≤ 1048576)
def OpenSpec.upto (s : _root_.Go.ChangeSpec) : _root_.Go.OpenSpec := { _root_.Go.OpenSpec.ofChange s with cond := some uptoSmall }

/-- 'laws.FnExactIsColouring', WHERE WHAT IT READS IS OF BULK AT MOST 1048576: true; the input reads as it did. -/
def fnExactIsColouringUptoRow : OpenClaim := { program := "ytbcdcbamdahnpaa", sum := "3a2476f6301cefa7afb688c5929fcc803e7ae2d00adda1a04a365fa8ebcc350e", func := "loop.example/g03105/laws.FnExactIsColouring", spec := "fnExactIsColouring", apart := false, narrowed := true }
def FnExactIsColouringUptoSaid : Prop := fnExactIsColouringUptoRow.holds Try.pinned (OpenSpec.upto fnExactIsColouringSpec)

/-- 'laws.FnExactFewestColours', WHERE WHAT IT READS IS OF BULK AT MOST 1048576: true; the input reads as it did. -/
def fnExactFewestColoursUptoRow : OpenClaim := { program := "ytbcdcbamdahnpaa", sum := "3a2476f6301cefa7afb688c5929fcc803e7ae2d00adda1a04a365fa8ebcc350e", func := "loop.example/g03105/laws.FnExactFewestColours", spec := "fnExactFewestColours", unfollowed := true, recurses := true, apart := false, narrowed := true }
def FnExactFewestColoursUptoSaid : Prop := fnExactFewestColoursUptoRow.holds Try.pinned (OpenSpec.upto fnExactFewestColoursSpec)

/-- 'laws.FnExactFirstColouring', WHERE WHAT IT READS IS OF BULK AT MOST 1048576: true; the input reads as it did. -/
def fnExactFirstColouringUptoRow : OpenClaim := { program := "ytbcdcbamdahnpaa", sum := "3a2476f6301cefa7afb688c5929fcc803e7ae2d00adda1a04a365fa8ebcc350e", func := "loop.example/g03105/laws.FnExactFirstColouring", spec := "fnExactFirstColouring", unfollowed := true, recurses := true, apart := false, narrowed := true }
def FnExactFirstColouringUptoSaid : Prop := fnExactFirstColouringUptoRow.holds Try.pinned (OpenSpec.upto fnExactFirstColouringSpec)

/-- 'laws.FnColours', WHERE WHAT IT READS IS OF BULK AT MOST 1048576: true; the input reads as it did. -/
def fnColoursUptoRow : OpenClaim := { program := "ytbcdcbamdahnpaa", sum := "3a2476f6301cefa7afb688c5929fcc803e7ae2d00adda1a04a365fa8ebcc350e", func := "loop.example/g03105/laws.FnColours", spec := "fnColours", unfollowed := true, recurses := true, apart := false, narrowed := true }
def FnColoursUptoSaid : Prop := fnColoursUptoRow.holds Try.pinned (OpenSpec.upto fnColoursSpec)

/-- 'laws.FnCuts', WHERE WHAT IT READS IS OF BULK AT MOST 1048576: true; the input reads as it did. -/
def fnCutsUptoRow : OpenClaim := { program := "ytbcdcbamdahnpaa", sum := "3a2476f6301cefa7afb688c5929fcc803e7ae2d00adda1a04a365fa8ebcc350e", func := "loop.example/g03105/laws.FnCuts", spec := "fnCuts", apart := false, narrowed := true }
def FnCutsUptoSaid : Prop := fnCutsUptoRow.holds Try.pinned (OpenSpec.upto fnCutsSpec)

end Rows
end Go.Proofs.Ytbcdcbamdahnpaa
