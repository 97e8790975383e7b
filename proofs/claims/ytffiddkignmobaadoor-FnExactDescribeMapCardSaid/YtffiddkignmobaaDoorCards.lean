/-
  DERIVED. GIVEN WITH THE SEED: THE CARDS: each row of YtffiddkignmobaaDoorRows.lean that lists a variable, with what it lists TIED to the program's text (the seventh form; the later family's looks); each row that meets fmt, with fmt's text TOLD by the authors' own Lean function (tested against real Go, not proved from fmt's source: count such statements apart). THE CARD IS WHAT COUNTS. Prove the row's statement (the work); the ties are given (YtffiddkignmobaaDoorTie.lean); close each card by the builder's one call (the guide's Derived/Test/ToyasCard.lean, 'card_holds'). Laid BY PROGRAM, IN A SANDBOX (cutbox-door.mjs). By AI agents, Wed Nov 11 2026. No macro, syntax, notation, axiom, sorry.
-/
import Derived.Test.YtffiddkignmobaaDoorRows
import GoSem.ClaimSeven
namespace Go.Proofs.YtffiddkignmobaaDoor
namespace Rows

/-- THE TIED CARD OF 'laws.FnExactDescribeMatrix'. -/
def fnExactDescribeMatrixCard : Claim7 := { stood := { row := fnExactDescribeMatrixRow, standIns := [], harness := (true, "29302c54dae2bbf2e2dd0c7e73ed3e3024e8fd4d7528e167a0d632fcc41316aa"), looks := false }, kinds := [], alts := [], laidByText := true, laidKinds := [.data, .data, .data], laidTests := true, laidLooks := .later }
def FnExactDescribeMatrixCardSaid : Prop := Claim7.holds Tryd.pinned (.plain (OpenSpec.ofChange fnExactDescribeMatrixSpec)) fnExactDescribeMatrixCard

/-- THE TIED CARD OF 'laws.FnExactDescribeMap'. -/
def fnExactDescribeMapCard : Claim7 := { stood := { row := fnExactDescribeMapRow, standIns := [], harness := (true, "29302c54dae2bbf2e2dd0c7e73ed3e3024e8fd4d7528e167a0d632fcc41316aa"), looks := false }, kinds := [], alts := [], laidByText := true, laidKinds := [.data, .data, .data], laidTests := true, laidLooks := .later }
def FnExactDescribeMapCardSaid : Prop := Claim7.holds Tryd.pinned (.plain (OpenSpec.ofChange fnExactDescribeMapSpec)) fnExactDescribeMapCard

/-- THE TIED CARD OF 'laws.FnExactDescribeWord'. -/
def fnExactDescribeWordCard : Claim7 := { stood := { row := fnExactDescribeWordRow, standIns := [], harness := (true, "29302c54dae2bbf2e2dd0c7e73ed3e3024e8fd4d7528e167a0d632fcc41316aa"), looks := false }, kinds := [], alts := [], laidByText := true, laidKinds := [.data, .data, .data], laidTests := true, laidLooks := .later }
def FnExactDescribeWordCardSaid : Prop := Claim7.holds Tryd.pinned (.plain (OpenSpec.ofChange fnExactDescribeWordSpec)) fnExactDescribeWordCard

/-- THE TIED CARD OF 'laws.FnExactDescribeAction'. -/
def fnExactDescribeActionCard : Claim7 := { stood := { row := fnExactDescribeActionRow, standIns := [], harness := (true, "29302c54dae2bbf2e2dd0c7e73ed3e3024e8fd4d7528e167a0d632fcc41316aa"), looks := false }, kinds := [], alts := [], laidByText := true, laidKinds := [.data, .data, .data], laidTests := true, laidLooks := .later }
def FnExactDescribeActionCardSaid : Prop := Claim7.holds Tryd.pinned (.plain (OpenSpec.ofChange fnExactDescribeActionSpec)) fnExactDescribeActionCard

/-- THE TIED CARD OF 'laws.FnExactDescribeCurve'. -/
def fnExactDescribeCurveCard : Claim7 := { stood := { row := fnExactDescribeCurveRow, standIns := [], harness := (true, "29302c54dae2bbf2e2dd0c7e73ed3e3024e8fd4d7528e167a0d632fcc41316aa"), looks := false }, kinds := [], alts := [], laidByText := true, laidKinds := [.data, .data, .data], laidTests := true, laidLooks := .later }
def FnExactDescribeCurveCardSaid : Prop := Claim7.holds Tryd.pinned (.plain (OpenSpec.ofChange fnExactDescribeCurveSpec)) fnExactDescribeCurveCard

/-- THE TIED CARD OF 'laws.FnExactDescribeGluing'. -/
def fnExactDescribeGluingCard : Claim7 := { stood := { row := fnExactDescribeGluingRow, standIns := [], harness := (true, "29302c54dae2bbf2e2dd0c7e73ed3e3024e8fd4d7528e167a0d632fcc41316aa"), looks := false }, kinds := [], alts := [], laidByText := true, laidKinds := [.data, .data, .data], laidTests := true, laidLooks := .later }
def FnExactDescribeGluingCardSaid : Prop := Claim7.holds Tryd.pinned (.plain (OpenSpec.ofChange fnExactDescribeGluingSpec)) fnExactDescribeGluingCard

/-- THE SECOND FORM's CARD OF 'laws.FnExactDescribeMatrix'. -/
def fnExactDescribeMatrixUptoCard : Claim7 := { stood := { row := fnExactDescribeMatrixUptoRow, standIns := [], harness := (true, "29302c54dae2bbf2e2dd0c7e73ed3e3024e8fd4d7528e167a0d632fcc41316aa"), looks := false }, kinds := [], alts := [], laidByText := true, laidKinds := [.data, .data, .data], laidTests := true, laidLooks := .later }
def FnExactDescribeMatrixUptoCardSaid : Prop := Claim7.holds Tryd.pinned (.plain (OpenSpec.upto fnExactDescribeMatrixSpec)) fnExactDescribeMatrixUptoCard

/-- THE SECOND FORM's CARD OF 'laws.FnExactDescribeMap'. -/
def fnExactDescribeMapUptoCard : Claim7 := { stood := { row := fnExactDescribeMapUptoRow, standIns := [], harness := (true, "29302c54dae2bbf2e2dd0c7e73ed3e3024e8fd4d7528e167a0d632fcc41316aa"), looks := false }, kinds := [], alts := [], laidByText := true, laidKinds := [.data, .data, .data], laidTests := true, laidLooks := .later }
def FnExactDescribeMapUptoCardSaid : Prop := Claim7.holds Tryd.pinned (.plain (OpenSpec.upto fnExactDescribeMapSpec)) fnExactDescribeMapUptoCard

/-- THE SECOND FORM's CARD OF 'laws.FnExactDescribeWord'. -/
def fnExactDescribeWordUptoCard : Claim7 := { stood := { row := fnExactDescribeWordUptoRow, standIns := [], harness := (true, "29302c54dae2bbf2e2dd0c7e73ed3e3024e8fd4d7528e167a0d632fcc41316aa"), looks := false }, kinds := [], alts := [], laidByText := true, laidKinds := [.data, .data, .data], laidTests := true, laidLooks := .later }
def FnExactDescribeWordUptoCardSaid : Prop := Claim7.holds Tryd.pinned (.plain (OpenSpec.upto fnExactDescribeWordSpec)) fnExactDescribeWordUptoCard

/-- THE SECOND FORM's CARD OF 'laws.FnExactDescribeAction'. -/
def fnExactDescribeActionUptoCard : Claim7 := { stood := { row := fnExactDescribeActionUptoRow, standIns := [], harness := (true, "29302c54dae2bbf2e2dd0c7e73ed3e3024e8fd4d7528e167a0d632fcc41316aa"), looks := false }, kinds := [], alts := [], laidByText := true, laidKinds := [.data, .data, .data], laidTests := true, laidLooks := .later }
def FnExactDescribeActionUptoCardSaid : Prop := Claim7.holds Tryd.pinned (.plain (OpenSpec.upto fnExactDescribeActionSpec)) fnExactDescribeActionUptoCard

/-- THE SECOND FORM's CARD OF 'laws.FnExactDescribeCurve'. -/
def fnExactDescribeCurveUptoCard : Claim7 := { stood := { row := fnExactDescribeCurveUptoRow, standIns := [], harness := (true, "29302c54dae2bbf2e2dd0c7e73ed3e3024e8fd4d7528e167a0d632fcc41316aa"), looks := false }, kinds := [], alts := [], laidByText := true, laidKinds := [.data, .data, .data], laidTests := true, laidLooks := .later }
def FnExactDescribeCurveUptoCardSaid : Prop := Claim7.holds Tryd.pinned (.plain (OpenSpec.upto fnExactDescribeCurveSpec)) fnExactDescribeCurveUptoCard

/-- THE SECOND FORM's CARD OF 'laws.FnExactDescribeGluing'. -/
def fnExactDescribeGluingUptoCard : Claim7 := { stood := { row := fnExactDescribeGluingUptoRow, standIns := [], harness := (true, "29302c54dae2bbf2e2dd0c7e73ed3e3024e8fd4d7528e167a0d632fcc41316aa"), looks := false }, kinds := [], alts := [], laidByText := true, laidKinds := [.data, .data, .data], laidTests := true, laidLooks := .later }
def FnExactDescribeGluingUptoCardSaid : Prop := Claim7.holds Tryd.pinned (.plain (OpenSpec.upto fnExactDescribeGluingSpec)) fnExactDescribeGluingUptoCard
end Rows
end Go.Proofs.YtffiddkignmobaaDoor
