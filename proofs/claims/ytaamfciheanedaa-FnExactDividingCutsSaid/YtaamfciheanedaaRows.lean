/-
  No cell of these rows narrows 'for every input' (looked for: loops, veiled, ifaces, maps, wideKeys, modest, calm, conditions, laid).
  DERIVED. THE GIVEN ROWS OF THIS SEAT. 12 by the template 'for every input the law returns true; each argument reads behind the call as it read before'; 0 by the template 'total and deterministic' (their statements: YtaamfciheanedaaTotals.lean).
  GIVEN WITH THE SEED: the statements are not yours to turn. If you find one false, say at which input.
  Laid BY PROGRAM, IN A SANDBOX (cutbox-rows.mjs): the forced cells as the released guide's own fill.sh prints them over the translation 32ec3340f1c6c0ab… (all of the seat's roots in one cut). By AI agents, Wed Nov 11 2026. No macro, syntax, notation, axiom, sorry.
-/
import Derived.Test.YtaamfciheanedaaChecked
import GoSem.Claim
import GoSem.ClaimJoined
import GoSem.ClaimMapViews
import Derived.JoinedTies
import Derived.KernelRfl
namespace Go.Proofs.Ytaamfciheanedaa
/- THE CELL 'sum', in the pinned program and in every row, IS THE sha256 OF THE DUMP (.gsa) THAT YtaamfciheanedaaProg.lean LOADS. Nothing in Lean hashes anything: it is a label: what it is worth is what the hold of that sum in a sandbox is worth. -/
noncomputable def Try.pinned : Pinned := { name := "ytaamfciheanedaa", sum := "32ec3340f1c6c0ab8ea6bdb970a8dd34efee04e58ca5f797210e2ad29526a007", checked := Try.checked }
namespace Rows
def none {H : Type} : Left H := { results := [], args := [] }

/-- 'laws.FnExactCutAround': WHATEVER THE INPUT: true; the input reads as it did. -/
def fnExactCutAroundSpec : ChangeSpec := { name := "fnExactCutAround", fn := fun _ => fun
  | [d] => { results := [.lit (.bool true)], args := [d] }
  | _ => none }
def fnExactCutAroundRow : OpenClaim := { program := "ytaamfciheanedaa", sum := "32ec3340f1c6c0ab8ea6bdb970a8dd34efee04e58ca5f797210e2ad29526a007", func := "loop.example/g03105/laws.FnExactCutAround", spec := "fnExactCutAround", apart := false }
def FnExactCutAroundSaid : Prop := fnExactCutAroundRow.holds Try.pinned (OpenSpec.ofChange fnExactCutAroundSpec)

/-- ITS FALSE NEIGHBOUR: 'it returns false'. Refute it at one input. -/
def fnExactCutAroundWrong : ChangeSpec := { name := "fnExactCutAround", fn := fun _ => fun
  | [d] => { results := [.lit (.bool false)], args := [d] }
  | _ => none }
def FnExactCutAroundWrongFalsely : Prop := fnExactCutAroundRow.holds Try.pinned (OpenSpec.ofChange fnExactCutAroundWrong)

/-- 'laws.FnExactGlueBorders': WHATEVER THE INPUT: true; the input reads as it did. -/
def fnExactGlueBordersSpec : ChangeSpec := { name := "fnExactGlueBorders", fn := fun _ => fun
  | [d] => { results := [.lit (.bool true)], args := [d] }
  | _ => none }
def fnExactGlueBordersRow : OpenClaim := { program := "ytaamfciheanedaa", sum := "32ec3340f1c6c0ab8ea6bdb970a8dd34efee04e58ca5f797210e2ad29526a007", func := "loop.example/g03105/laws.FnExactGlueBorders", spec := "fnExactGlueBorders", apart := false }
def FnExactGlueBordersSaid : Prop := fnExactGlueBordersRow.holds Try.pinned (OpenSpec.ofChange fnExactGlueBordersSpec)

/-- ITS FALSE NEIGHBOUR: 'it returns false'. Refute it at one input. -/
def fnExactGlueBordersWrong : ChangeSpec := { name := "fnExactGlueBorders", fn := fun _ => fun
  | [d] => { results := [.lit (.bool false)], args := [d] }
  | _ => none }
def FnExactGlueBordersWrongFalsely : Prop := fnExactGlueBordersRow.holds Try.pinned (OpenSpec.ofChange fnExactGlueBordersWrong)

/-- 'laws.FnExactJoinBorders': WHATEVER THE INPUT: true; the input reads as it did. -/
def fnExactJoinBordersSpec : ChangeSpec := { name := "fnExactJoinBorders", fn := fun _ => fun
  | [d1, d2] => { results := [.lit (.bool true)], args := [d1, d2] }
  | _ => none }
def fnExactJoinBordersRow : OpenClaim := { program := "ytaamfciheanedaa", sum := "32ec3340f1c6c0ab8ea6bdb970a8dd34efee04e58ca5f797210e2ad29526a007", func := "loop.example/g03105/laws.FnExactJoinBorders", spec := "fnExactJoinBorders", apart := false }
def FnExactJoinBordersSaid : Prop := fnExactJoinBordersRow.holds Try.pinned (OpenSpec.ofChange fnExactJoinBordersSpec)

/-- ITS FALSE NEIGHBOUR: 'it returns false'. Refute it at one input. -/
def fnExactJoinBordersWrong : ChangeSpec := { name := "fnExactJoinBorders", fn := fun _ => fun
  | [d1, d2] => { results := [.lit (.bool false)], args := [d1, d2] }
  | _ => none }
def FnExactJoinBordersWrongFalsely : Prop := fnExactJoinBordersRow.holds Try.pinned (OpenSpec.ofChange fnExactJoinBordersWrong)

/-- 'laws.FnExactSumSurface': WHATEVER THE INPUT: true; the input reads as it did. -/
def fnExactSumSurfaceSpec : ChangeSpec := { name := "fnExactSumSurface", fn := fun _ => fun
  | [d1, d2] => { results := [.lit (.bool true)], args := [d1, d2] }
  | _ => none }
def fnExactSumSurfaceRow : OpenClaim := { program := "ytaamfciheanedaa", sum := "32ec3340f1c6c0ab8ea6bdb970a8dd34efee04e58ca5f797210e2ad29526a007", func := "loop.example/g03105/laws.FnExactSumSurface", spec := "fnExactSumSurface", apart := false }
def FnExactSumSurfaceSaid : Prop := fnExactSumSurfaceRow.holds Try.pinned (OpenSpec.ofChange fnExactSumSurfaceSpec)

/-- ITS FALSE NEIGHBOUR: 'it returns false'. Refute it at one input. -/
def fnExactSumSurfaceWrong : ChangeSpec := { name := "fnExactSumSurface", fn := fun _ => fun
  | [d1, d2] => { results := [.lit (.bool false)], args := [d1, d2] }
  | _ => none }
def FnExactSumSurfaceWrongFalsely : Prop := fnExactSumSurfaceRow.holds Try.pinned (OpenSpec.ofChange fnExactSumSurfaceWrong)

/-- 'laws.FnExactWithBorder': WHATEVER THE INPUT: true; the input reads as it did. -/
def fnExactWithBorderSpec : ChangeSpec := { name := "fnExactWithBorder", fn := fun _ => fun
  | [d] => { results := [.lit (.bool true)], args := [d] }
  | _ => none }
def fnExactWithBorderRow : OpenClaim := { program := "ytaamfciheanedaa", sum := "32ec3340f1c6c0ab8ea6bdb970a8dd34efee04e58ca5f797210e2ad29526a007", func := "loop.example/g03105/laws.FnExactWithBorder", spec := "fnExactWithBorder", apart := false }
def FnExactWithBorderSaid : Prop := fnExactWithBorderRow.holds Try.pinned (OpenSpec.ofChange fnExactWithBorderSpec)

/-- ITS FALSE NEIGHBOUR: 'it returns false'. Refute it at one input. -/
def fnExactWithBorderWrong : ChangeSpec := { name := "fnExactWithBorder", fn := fun _ => fun
  | [d] => { results := [.lit (.bool false)], args := [d] }
  | _ => none }
def FnExactWithBorderWrongFalsely : Prop := fnExactWithBorderRow.holds Try.pinned (OpenSpec.ofChange fnExactWithBorderWrong)

/-- 'laws.FnExactWithCrosscap': WHATEVER THE INPUT: true; the input reads as it did. -/
def fnExactWithCrosscapSpec : ChangeSpec := { name := "fnExactWithCrosscap", fn := fun _ => fun
  | [d] => { results := [.lit (.bool true)], args := [d] }
  | _ => none }
def fnExactWithCrosscapRow : OpenClaim := { program := "ytaamfciheanedaa", sum := "32ec3340f1c6c0ab8ea6bdb970a8dd34efee04e58ca5f797210e2ad29526a007", func := "loop.example/g03105/laws.FnExactWithCrosscap", spec := "fnExactWithCrosscap", apart := false }
def FnExactWithCrosscapSaid : Prop := fnExactWithCrosscapRow.holds Try.pinned (OpenSpec.ofChange fnExactWithCrosscapSpec)

/-- ITS FALSE NEIGHBOUR: 'it returns false'. Refute it at one input. -/
def fnExactWithCrosscapWrong : ChangeSpec := { name := "fnExactWithCrosscap", fn := fun _ => fun
  | [d] => { results := [.lit (.bool false)], args := [d] }
  | _ => none }
def FnExactWithCrosscapWrongFalsely : Prop := fnExactWithCrosscapRow.holds Try.pinned (OpenSpec.ofChange fnExactWithCrosscapWrong)

/-- 'laws.FnExactWithHandle': WHATEVER THE INPUT: true; the input reads as it did. -/
def fnExactWithHandleSpec : ChangeSpec := { name := "fnExactWithHandle", fn := fun _ => fun
  | [d] => { results := [.lit (.bool true)], args := [d] }
  | _ => none }
def fnExactWithHandleRow : OpenClaim := { program := "ytaamfciheanedaa", sum := "32ec3340f1c6c0ab8ea6bdb970a8dd34efee04e58ca5f797210e2ad29526a007", func := "loop.example/g03105/laws.FnExactWithHandle", spec := "fnExactWithHandle", apart := false }
def FnExactWithHandleSaid : Prop := fnExactWithHandleRow.holds Try.pinned (OpenSpec.ofChange fnExactWithHandleSpec)

/-- ITS FALSE NEIGHBOUR: 'it returns false'. Refute it at one input. -/
def fnExactWithHandleWrong : ChangeSpec := { name := "fnExactWithHandle", fn := fun _ => fun
  | [d] => { results := [.lit (.bool false)], args := [d] }
  | _ => none }
def FnExactWithHandleWrongFalsely : Prop := fnExactWithHandleRow.holds Try.pinned (OpenSpec.ofChange fnExactWithHandleWrong)

/-- 'laws.FnExactExampleWord': WHATEVER THE INPUT: true; the input reads as it did. -/
def fnExactExampleWordSpec : ChangeSpec := { name := "fnExactExampleWord", fn := fun _ => fun
  | [d] => { results := [.lit (.bool true)], args := [d] }
  | _ => none }
def fnExactExampleWordRow : OpenClaim := { program := "ytaamfciheanedaa", sum := "32ec3340f1c6c0ab8ea6bdb970a8dd34efee04e58ca5f797210e2ad29526a007", func := "loop.example/g03105/laws.FnExactExampleWord", spec := "fnExactExampleWord", apart := false }
def FnExactExampleWordSaid : Prop := fnExactExampleWordRow.holds Try.pinned (OpenSpec.ofChange fnExactExampleWordSpec)

/-- ITS FALSE NEIGHBOUR: 'it returns false'. Refute it at one input. -/
def fnExactExampleWordWrong : ChangeSpec := { name := "fnExactExampleWord", fn := fun _ => fun
  | [d] => { results := [.lit (.bool false)], args := [d] }
  | _ => none }
def FnExactExampleWordWrongFalsely : Prop := fnExactExampleWordRow.holds Try.pinned (OpenSpec.ofChange fnExactExampleWordWrong)

/-- 'laws.FnExactSurfacesWith': WHATEVER THE INPUT: true; the input reads as it did. -/
def fnExactSurfacesWithSpec : ChangeSpec := { name := "fnExactSurfacesWith", fn := fun _ => fun
  | [d] => { results := [.lit (.bool true)], args := [d] }
  | _ => none }
def fnExactSurfacesWithRow : OpenClaim := { program := "ytaamfciheanedaa", sum := "32ec3340f1c6c0ab8ea6bdb970a8dd34efee04e58ca5f797210e2ad29526a007", func := "loop.example/g03105/laws.FnExactSurfacesWith", spec := "fnExactSurfacesWith", apart := false }
def FnExactSurfacesWithSaid : Prop := fnExactSurfacesWithRow.holds Try.pinned (OpenSpec.ofChange fnExactSurfacesWithSpec)

/-- ITS FALSE NEIGHBOUR: 'it returns false'. Refute it at one input. -/
def fnExactSurfacesWithWrong : ChangeSpec := { name := "fnExactSurfacesWith", fn := fun _ => fun
  | [d] => { results := [.lit (.bool false)], args := [d] }
  | _ => none }
def FnExactSurfacesWithWrongFalsely : Prop := fnExactSurfacesWithRow.holds Try.pinned (OpenSpec.ofChange fnExactSurfacesWithWrong)

/-- 'laws.FnExactDividingCuts': WHATEVER THE INPUT: true; the input reads as it did. -/
def fnExactDividingCutsSpec : ChangeSpec := { name := "fnExactDividingCuts", fn := fun _ => fun
  | [d] => { results := [.lit (.bool true)], args := [d] }
  | _ => none }
def fnExactDividingCutsRow : OpenClaim := { program := "ytaamfciheanedaa", sum := "32ec3340f1c6c0ab8ea6bdb970a8dd34efee04e58ca5f797210e2ad29526a007", func := "loop.example/g03105/laws.FnExactDividingCuts", spec := "fnExactDividingCuts", apart := false }
def FnExactDividingCutsSaid : Prop := fnExactDividingCutsRow.holds Try.pinned (OpenSpec.ofChange fnExactDividingCutsSpec)

/-- ITS FALSE NEIGHBOUR: 'it returns false'. Refute it at one input. -/
def fnExactDividingCutsWrong : ChangeSpec := { name := "fnExactDividingCuts", fn := fun _ => fun
  | [d] => { results := [.lit (.bool false)], args := [d] }
  | _ => none }
def FnExactDividingCutsWrongFalsely : Prop := fnExactDividingCutsRow.holds Try.pinned (OpenSpec.ofChange fnExactDividingCutsWrong)

/-- 'laws.FnExactIsColouring': WHATEVER THE INPUT: true; the input reads as it did. -/
def fnExactIsColouringSpec : ChangeSpec := { name := "fnExactIsColouring", fn := fun _ => fun
  | [d1, d2] => { results := [.lit (.bool true)], args := [d1, d2] }
  | _ => none }
def fnExactIsColouringRow : OpenClaim := { program := "ytaamfciheanedaa", sum := "32ec3340f1c6c0ab8ea6bdb970a8dd34efee04e58ca5f797210e2ad29526a007", func := "loop.example/g03105/laws.FnExactIsColouring", spec := "fnExactIsColouring", apart := false }
def FnExactIsColouringSaid : Prop := fnExactIsColouringRow.holds Try.pinned (OpenSpec.ofChange fnExactIsColouringSpec)

/-- ITS FALSE NEIGHBOUR: 'it returns false'. Refute it at one input. -/
def fnExactIsColouringWrong : ChangeSpec := { name := "fnExactIsColouring", fn := fun _ => fun
  | [d1, d2] => { results := [.lit (.bool false)], args := [d1, d2] }
  | _ => none }
def FnExactIsColouringWrongFalsely : Prop := fnExactIsColouringRow.holds Try.pinned (OpenSpec.ofChange fnExactIsColouringWrong)

/-- 'laws.FnExactSimpleWords': WHATEVER THE INPUT: true; the input reads as it did. -/
def fnExactSimpleWordsSpec : ChangeSpec := { name := "fnExactSimpleWords", fn := fun _ => fun
  | [d] => { results := [.lit (.bool true)], args := [d] }
  | _ => none }
def fnExactSimpleWordsRow : OpenClaim := { program := "ytaamfciheanedaa", sum := "32ec3340f1c6c0ab8ea6bdb970a8dd34efee04e58ca5f797210e2ad29526a007", func := "loop.example/g03105/laws.FnExactSimpleWords", spec := "fnExactSimpleWords", apart := false }
def FnExactSimpleWordsSaid : Prop := fnExactSimpleWordsRow.holds Try.pinned (OpenSpec.ofChange fnExactSimpleWordsSpec)

/-- ITS FALSE NEIGHBOUR: 'it returns false'. Refute it at one input. -/
def fnExactSimpleWordsWrong : ChangeSpec := { name := "fnExactSimpleWords", fn := fun _ => fun
  | [d] => { results := [.lit (.bool false)], args := [d] }
  | _ => none }
def FnExactSimpleWordsWrongFalsely : Prop := fnExactSimpleWordsRow.holds Try.pinned (OpenSpec.ofChange fnExactSimpleWordsWrong)

/- THE SECOND FORM. 'bulk': how many values and letters a reading holds, each counted each time it is reached (what is shared counts as often as it is met; a slice's spare places count too). A statement '..UptoSaid' is the law's where the arguments, and the package variables that the reading takes, are together of bulk at most 1048576: NARROWER than '..Said'. Prove '..Said' where nothing that the law and all that it calls make is longer than what came in: it says more and counts as full. Else prove '..UptoSaid'. A law counts once. -/
mutual
def uptoBulk {H : Type} : DataW H → Nat
  | .lit (.string bytes) => bytes.length + 1
  | .lit _ => 1
  | .nil => 1
  | .ptr d => uptoBulk d + 1
  | .slice elems spare => uptoBulkAll elems + uptoBulkAll spare + 1
  | .agg parts => uptoBulkAll parts + 1
  | .iface _ d => uptoBulk d + 1
  | .map entries => uptoBulkEntries entries + 1
  | .held _ => 1
def uptoBulkAll {H : Type} : List (DataW H) → Nat
  | [] => 0
  | d :: r => uptoBulk d + uptoBulkAll r
def uptoBulkEntries {H : Type} : List (Lit × DataW H) → Nat
  | [] => 0
  | x :: r => uptoBulkEntry x + uptoBulkEntries r
def uptoBulkEntry {H : Type} : Lit × DataW H → Nat
  | (.string bytes, d) => bytes.length + uptoBulk d + 1
  | (_, d) => uptoBulk d + 1
 end
def uptoSmall : (H : Type) → List (DataW H) → Bool := fun _ ds => decide (uptoBulkAll ds ≤ 1048576)
def OpenSpec.upto (s : _root_.Go.ChangeSpec) : _root_.Go.OpenSpec := { _root_.Go.OpenSpec.ofChange s with cond := some uptoSmall }

/-- 'laws.FnExactCutAround', WHERE WHAT IT READS IS OF BULK AT MOST 1048576: true; the input reads as it did. -/
def fnExactCutAroundUptoRow : OpenClaim := { program := "ytaamfciheanedaa", sum := "32ec3340f1c6c0ab8ea6bdb970a8dd34efee04e58ca5f797210e2ad29526a007", func := "loop.example/g03105/laws.FnExactCutAround", spec := "fnExactCutAround", apart := false, narrowed := true }
def FnExactCutAroundUptoSaid : Prop := fnExactCutAroundUptoRow.holds Try.pinned (OpenSpec.upto fnExactCutAroundSpec)

/-- 'laws.FnExactGlueBorders', WHERE WHAT IT READS IS OF BULK AT MOST 1048576: true; the input reads as it did. -/
def fnExactGlueBordersUptoRow : OpenClaim := { program := "ytaamfciheanedaa", sum := "32ec3340f1c6c0ab8ea6bdb970a8dd34efee04e58ca5f797210e2ad29526a007", func := "loop.example/g03105/laws.FnExactGlueBorders", spec := "fnExactGlueBorders", apart := false, narrowed := true }
def FnExactGlueBordersUptoSaid : Prop := fnExactGlueBordersUptoRow.holds Try.pinned (OpenSpec.upto fnExactGlueBordersSpec)

/-- 'laws.FnExactJoinBorders', WHERE WHAT IT READS IS OF BULK AT MOST 1048576: true; the input reads as it did. -/
def fnExactJoinBordersUptoRow : OpenClaim := { program := "ytaamfciheanedaa", sum := "32ec3340f1c6c0ab8ea6bdb970a8dd34efee04e58ca5f797210e2ad29526a007", func := "loop.example/g03105/laws.FnExactJoinBorders", spec := "fnExactJoinBorders", apart := false, narrowed := true }
def FnExactJoinBordersUptoSaid : Prop := fnExactJoinBordersUptoRow.holds Try.pinned (OpenSpec.upto fnExactJoinBordersSpec)

/-- 'laws.FnExactSumSurface', WHERE WHAT IT READS IS OF BULK AT MOST 1048576: true; the input reads as it did. -/
def fnExactSumSurfaceUptoRow : OpenClaim := { program := "ytaamfciheanedaa", sum := "32ec3340f1c6c0ab8ea6bdb970a8dd34efee04e58ca5f797210e2ad29526a007", func := "loop.example/g03105/laws.FnExactSumSurface", spec := "fnExactSumSurface", apart := false, narrowed := true }
def FnExactSumSurfaceUptoSaid : Prop := fnExactSumSurfaceUptoRow.holds Try.pinned (OpenSpec.upto fnExactSumSurfaceSpec)

/-- 'laws.FnExactWithBorder', WHERE WHAT IT READS IS OF BULK AT MOST 1048576: true; the input reads as it did. -/
def fnExactWithBorderUptoRow : OpenClaim := { program := "ytaamfciheanedaa", sum := "32ec3340f1c6c0ab8ea6bdb970a8dd34efee04e58ca5f797210e2ad29526a007", func := "loop.example/g03105/laws.FnExactWithBorder", spec := "fnExactWithBorder", apart := false, narrowed := true }
def FnExactWithBorderUptoSaid : Prop := fnExactWithBorderUptoRow.holds Try.pinned (OpenSpec.upto fnExactWithBorderSpec)

/-- 'laws.FnExactWithCrosscap', WHERE WHAT IT READS IS OF BULK AT MOST 1048576: true; the input reads as it did. -/
def fnExactWithCrosscapUptoRow : OpenClaim := { program := "ytaamfciheanedaa", sum := "32ec3340f1c6c0ab8ea6bdb970a8dd34efee04e58ca5f797210e2ad29526a007", func := "loop.example/g03105/laws.FnExactWithCrosscap", spec := "fnExactWithCrosscap", apart := false, narrowed := true }
def FnExactWithCrosscapUptoSaid : Prop := fnExactWithCrosscapUptoRow.holds Try.pinned (OpenSpec.upto fnExactWithCrosscapSpec)

/-- 'laws.FnExactWithHandle', WHERE WHAT IT READS IS OF BULK AT MOST 1048576: true; the input reads as it did. -/
def fnExactWithHandleUptoRow : OpenClaim := { program := "ytaamfciheanedaa", sum := "32ec3340f1c6c0ab8ea6bdb970a8dd34efee04e58ca5f797210e2ad29526a007", func := "loop.example/g03105/laws.FnExactWithHandle", spec := "fnExactWithHandle", apart := false, narrowed := true }
def FnExactWithHandleUptoSaid : Prop := fnExactWithHandleUptoRow.holds Try.pinned (OpenSpec.upto fnExactWithHandleSpec)

/-- 'laws.FnExactExampleWord', WHERE WHAT IT READS IS OF BULK AT MOST 1048576: true; the input reads as it did. -/
def fnExactExampleWordUptoRow : OpenClaim := { program := "ytaamfciheanedaa", sum := "32ec3340f1c6c0ab8ea6bdb970a8dd34efee04e58ca5f797210e2ad29526a007", func := "loop.example/g03105/laws.FnExactExampleWord", spec := "fnExactExampleWord", apart := false, narrowed := true }
def FnExactExampleWordUptoSaid : Prop := fnExactExampleWordUptoRow.holds Try.pinned (OpenSpec.upto fnExactExampleWordSpec)

/-- 'laws.FnExactSurfacesWith', WHERE WHAT IT READS IS OF BULK AT MOST 1048576: true; the input reads as it did. -/
def fnExactSurfacesWithUptoRow : OpenClaim := { program := "ytaamfciheanedaa", sum := "32ec3340f1c6c0ab8ea6bdb970a8dd34efee04e58ca5f797210e2ad29526a007", func := "loop.example/g03105/laws.FnExactSurfacesWith", spec := "fnExactSurfacesWith", apart := false, narrowed := true }
def FnExactSurfacesWithUptoSaid : Prop := fnExactSurfacesWithUptoRow.holds Try.pinned (OpenSpec.upto fnExactSurfacesWithSpec)

/-- 'laws.FnExactDividingCuts', WHERE WHAT IT READS IS OF BULK AT MOST 1048576: true; the input reads as it did. -/
def fnExactDividingCutsUptoRow : OpenClaim := { program := "ytaamfciheanedaa", sum := "32ec3340f1c6c0ab8ea6bdb970a8dd34efee04e58ca5f797210e2ad29526a007", func := "loop.example/g03105/laws.FnExactDividingCuts", spec := "fnExactDividingCuts", apart := false, narrowed := true }
def FnExactDividingCutsUptoSaid : Prop := fnExactDividingCutsUptoRow.holds Try.pinned (OpenSpec.upto fnExactDividingCutsSpec)

/-- 'laws.FnExactIsColouring', WHERE WHAT IT READS IS OF BULK AT MOST 1048576: true; the input reads as it did. -/
def fnExactIsColouringUptoRow : OpenClaim := { program := "ytaamfciheanedaa", sum := "32ec3340f1c6c0ab8ea6bdb970a8dd34efee04e58ca5f797210e2ad29526a007", func := "loop.example/g03105/laws.FnExactIsColouring", spec := "fnExactIsColouring", apart := false, narrowed := true }
def FnExactIsColouringUptoSaid : Prop := fnExactIsColouringUptoRow.holds Try.pinned (OpenSpec.upto fnExactIsColouringSpec)

/-- 'laws.FnExactSimpleWords', WHERE WHAT IT READS IS OF BULK AT MOST 1048576: true; the input reads as it did. -/
def fnExactSimpleWordsUptoRow : OpenClaim := { program := "ytaamfciheanedaa", sum := "32ec3340f1c6c0ab8ea6bdb970a8dd34efee04e58ca5f797210e2ad29526a007", func := "loop.example/g03105/laws.FnExactSimpleWords", spec := "fnExactSimpleWords", apart := false, narrowed := true }
def FnExactSimpleWordsUptoSaid : Prop := fnExactSimpleWordsUptoRow.holds Try.pinned (OpenSpec.upto fnExactSimpleWordsSpec)

end Rows
end Go.Proofs.Ytaamfciheanedaa
