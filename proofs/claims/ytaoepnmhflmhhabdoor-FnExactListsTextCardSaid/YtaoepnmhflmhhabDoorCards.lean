/-
  DERIVED. GIVEN WITH THE SEED: THE CARDS: each row of YtaoepnmhflmhhabDoorRows.lean that lists a variable, with what it lists TIED to the program's text (the seventh form; the later family's looks); each row that meets fmt, with fmt's text TOLD by the authors' own Lean function (tested against real Go, not proved from fmt's source: count such statements apart). THE CARD IS WHAT COUNTS. Prove the row's statement (the work); the ties are given (YtaoepnmhflmhhabDoorTie.lean); close each card by the builder's one call (the guide's Derived/Test/ToyasCard.lean, 'card_holds'). Laid BY PROGRAM, IN A SANDBOX (cutbox-door.mjs). By AI agents, Wed Nov 11 2026. No macro, syntax, notation, axiom, sorry.
-/
import Derived.Test.YtaoepnmhflmhhabDoorRows
import GoSem.ClaimSeven
namespace Go.Proofs.YtaoepnmhflmhhabDoor
namespace Rows

/-- THE TIED CARD OF 'laws.FnExactListsText'. -/
def fnExactListsTextCard : Claim7 := { stood := { row := fnExactListsTextRow, standIns := [], harness := (true, "bec79db154c2972bd4c6ecbc1584df57fd24d773adbc95f51e471867eb755b1b"), looks := false }, kinds := [], alts := [], laidByText := true, laidKinds := [.data, .data, .data], laidTests := true, laidLooks := .later }
def FnExactListsTextCardSaid : Prop := Claim7.holds Tryd.pinned (.plain (OpenSpec.ofChange fnExactListsTextSpec)) fnExactListsTextCard

/-- THE TIED CARD OF 'laws.FnExactPantsText'. -/
def fnExactPantsTextCard : Claim7 := { stood := { row := fnExactPantsTextRow, standIns := [], harness := (true, "bec79db154c2972bd4c6ecbc1584df57fd24d773adbc95f51e471867eb755b1b"), looks := false }, kinds := [], alts := [], laidByText := true, laidKinds := [.data, .data, .data], laidTests := true, laidLooks := .later }
def FnExactPantsTextCardSaid : Prop := Claim7.holds Tryd.pinned (.plain (OpenSpec.ofChange fnExactPantsTextSpec)) fnExactPantsTextCard

/-- THE SECOND FORM's CARD OF 'laws.FnExactListsText'. -/
def fnExactListsTextUptoCard : Claim7 := { stood := { row := fnExactListsTextUptoRow, standIns := [], harness := (true, "bec79db154c2972bd4c6ecbc1584df57fd24d773adbc95f51e471867eb755b1b"), looks := false }, kinds := [], alts := [], laidByText := true, laidKinds := [.data, .data, .data], laidTests := true, laidLooks := .later }
def FnExactListsTextUptoCardSaid : Prop := Claim7.holds Tryd.pinned (.plain (OpenSpec.upto fnExactListsTextSpec)) fnExactListsTextUptoCard

/-- THE SECOND FORM's CARD OF 'laws.FnExactPantsText'. -/
def fnExactPantsTextUptoCard : Claim7 := { stood := { row := fnExactPantsTextUptoRow, standIns := [], harness := (true, "bec79db154c2972bd4c6ecbc1584df57fd24d773adbc95f51e471867eb755b1b"), looks := false }, kinds := [], alts := [], laidByText := true, laidKinds := [.data, .data, .data], laidTests := true, laidLooks := .later }
def FnExactPantsTextUptoCardSaid : Prop := Claim7.holds Tryd.pinned (.plain (OpenSpec.upto fnExactPantsTextSpec)) fnExactPantsTextUptoCard
end Rows
end Go.Proofs.YtaoepnmhflmhhabDoor
