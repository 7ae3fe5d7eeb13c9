/-
  DERIVED. GIVEN WITH THE SEED: THE CARDS: each row of YtoganolkgmilaaaGreatDoorRows.lean that lists a variable, with what it lists TIED to the program's text (the seventh form; the later family's looks); each row that meets fmt, with fmt's text TOLD by the authors' own Lean function (tested against real Go, not proved from fmt's source: count such statements apart). THE CARD IS WHAT COUNTS. Prove the row's statement (the work); the ties are given (YtoganolkgmilaaaGreatDoorTie.lean); close each card by the builder's one call (the guide's Derived/Test/ToyasCard.lean, 'card_holds'). Laid BY PROGRAM, IN A SANDBOX (cutbox-door.mjs). By AI agents, Wed Nov 11 2026. No macro, syntax, notation, axiom, sorry.
-/
import Derived.Test.YtoganolkgmilaaaGreatDoorRows
import GoSem.ClaimSeven
namespace Go.Proofs.YtoganolkgmilaaaGreatDoor
namespace Rows

/-- THE TIED CARD OF 'covenantlaw21.SetcmdStores'. -/
def setcmdStoresCard : Claim7 := { stood := { row := setcmdStoresRow, standIns := [], harness := (true, "02f911c22bcff7886ac1c5b07acde39640392bd175b507503c3dbf6173aa1b97"), looks := true }, kinds := [], alts := [], laidByText := true, laidKinds := [.data, .data, .data, .sentinel, .sentinel], laidTests := true, laidLooks := .later }
def SetcmdStoresCardSaid : Prop := Claim7.holds Tryz.pinned (.plain (OpenSpec.ofChange setcmdStoresSpec)) setcmdStoresCard

/-- THE TIED CARD OF 'covenantlaw21.SetcmdMoves'. -/
def setcmdMovesCard : Claim7 := { stood := { row := setcmdMovesRow, standIns := [], harness := (true, "02f911c22bcff7886ac1c5b07acde39640392bd175b507503c3dbf6173aa1b97"), looks := true }, kinds := [], alts := [], laidByText := true, laidKinds := [.data, .data, .data, .sentinel, .sentinel], laidTests := true, laidLooks := .later }
def SetcmdMovesCardSaid : Prop := Claim7.holds Tryz.pinned (.plain (OpenSpec.ofChange setcmdMovesSpec)) setcmdMovesCard

/-- THE TIED CARD OF 'covenantlaw21.SetcmdScans'. -/
def setcmdScansCard : Claim7 := { stood := { row := setcmdScansRow, standIns := [], harness := (true, "02f911c22bcff7886ac1c5b07acde39640392bd175b507503c3dbf6173aa1b97"), looks := true }, kinds := [], alts := [], laidByText := true, laidKinds := [.data, .data, .data, .sentinel, .sentinel], laidTests := true, laidLooks := .later }
def SetcmdScansCardSaid : Prop := Claim7.holds Tryz.pinned (.plain (OpenSpec.ofChange setcmdScansSpec)) setcmdScansCard

/-- THE TIED CARD OF 'covenantlaw21.SetcmdNames'. -/
def setcmdNamesCard : Claim7 := { stood := { row := setcmdNamesRow, standIns := [], harness := (true, "02f911c22bcff7886ac1c5b07acde39640392bd175b507503c3dbf6173aa1b97"), looks := true }, kinds := [], alts := [], laidByText := true, laidKinds := [.data, .data, .data, .sentinel, .sentinel], laidTests := true, laidLooks := .later }
def SetcmdNamesCardSaid : Prop := Claim7.holds Tryz.pinned (.plain (OpenSpec.ofChange setcmdNamesSpec)) setcmdNamesCard

/-- THE TIED CARD OF 'covenantlaw21.SetcmdKeeps'. -/
def setcmdKeepsCard : Claim7 := { stood := { row := setcmdKeepsRow, standIns := [], harness := (true, "02f911c22bcff7886ac1c5b07acde39640392bd175b507503c3dbf6173aa1b97"), looks := true }, kinds := [], alts := [], laidByText := true, laidKinds := [.data, .data, .data, .sentinel, .sentinel], laidTests := true, laidLooks := .later }
def SetcmdKeepsCardSaid : Prop := Claim7.holds Tryz.pinned (.plain (OpenSpec.ofChange setcmdKeepsSpec)) setcmdKeepsCard

/-- THE TIED CARD OF 'covenantlaw21.SetcmdPops'. -/
def setcmdPopsCard : Claim7 := { stood := { row := setcmdPopsRow, standIns := [], harness := (true, "02f911c22bcff7886ac1c5b07acde39640392bd175b507503c3dbf6173aa1b97"), looks := true }, kinds := [], alts := [], laidByText := true, laidKinds := [.data, .data, .data, .sentinel, .sentinel], laidTests := true, laidLooks := .later }
def SetcmdPopsCardSaid : Prop := Claim7.holds Tryz.pinned (.plain (OpenSpec.ofChange setcmdPopsSpec)) setcmdPopsCard

/-- THE SECOND FORM's CARD OF 'covenantlaw21.SetcmdStores'. -/
def setcmdStoresUptoCard : Claim7 := { stood := { row := setcmdStoresUptoRow, standIns := [], harness := (true, "02f911c22bcff7886ac1c5b07acde39640392bd175b507503c3dbf6173aa1b97"), looks := true }, kinds := [], alts := [], laidByText := true, laidKinds := [.data, .data, .data, .sentinel, .sentinel], laidTests := true, laidLooks := .later }
def SetcmdStoresUptoCardSaid : Prop := Claim7.holds Tryz.pinned (.plain (OpenSpec.upto setcmdStoresSpec)) setcmdStoresUptoCard

/-- THE SECOND FORM's CARD OF 'covenantlaw21.SetcmdMoves'. -/
def setcmdMovesUptoCard : Claim7 := { stood := { row := setcmdMovesUptoRow, standIns := [], harness := (true, "02f911c22bcff7886ac1c5b07acde39640392bd175b507503c3dbf6173aa1b97"), looks := true }, kinds := [], alts := [], laidByText := true, laidKinds := [.data, .data, .data, .sentinel, .sentinel], laidTests := true, laidLooks := .later }
def SetcmdMovesUptoCardSaid : Prop := Claim7.holds Tryz.pinned (.plain (OpenSpec.upto setcmdMovesSpec)) setcmdMovesUptoCard

/-- THE SECOND FORM's CARD OF 'covenantlaw21.SetcmdScans'. -/
def setcmdScansUptoCard : Claim7 := { stood := { row := setcmdScansUptoRow, standIns := [], harness := (true, "02f911c22bcff7886ac1c5b07acde39640392bd175b507503c3dbf6173aa1b97"), looks := true }, kinds := [], alts := [], laidByText := true, laidKinds := [.data, .data, .data, .sentinel, .sentinel], laidTests := true, laidLooks := .later }
def SetcmdScansUptoCardSaid : Prop := Claim7.holds Tryz.pinned (.plain (OpenSpec.upto setcmdScansSpec)) setcmdScansUptoCard

/-- THE SECOND FORM's CARD OF 'covenantlaw21.SetcmdNames'. -/
def setcmdNamesUptoCard : Claim7 := { stood := { row := setcmdNamesUptoRow, standIns := [], harness := (true, "02f911c22bcff7886ac1c5b07acde39640392bd175b507503c3dbf6173aa1b97"), looks := true }, kinds := [], alts := [], laidByText := true, laidKinds := [.data, .data, .data, .sentinel, .sentinel], laidTests := true, laidLooks := .later }
def SetcmdNamesUptoCardSaid : Prop := Claim7.holds Tryz.pinned (.plain (OpenSpec.upto setcmdNamesSpec)) setcmdNamesUptoCard

/-- THE SECOND FORM's CARD OF 'covenantlaw21.SetcmdKeeps'. -/
def setcmdKeepsUptoCard : Claim7 := { stood := { row := setcmdKeepsUptoRow, standIns := [], harness := (true, "02f911c22bcff7886ac1c5b07acde39640392bd175b507503c3dbf6173aa1b97"), looks := true }, kinds := [], alts := [], laidByText := true, laidKinds := [.data, .data, .data, .sentinel, .sentinel], laidTests := true, laidLooks := .later }
def SetcmdKeepsUptoCardSaid : Prop := Claim7.holds Tryz.pinned (.plain (OpenSpec.upto setcmdKeepsSpec)) setcmdKeepsUptoCard

/-- THE SECOND FORM's CARD OF 'covenantlaw21.SetcmdPops'. -/
def setcmdPopsUptoCard : Claim7 := { stood := { row := setcmdPopsUptoRow, standIns := [], harness := (true, "02f911c22bcff7886ac1c5b07acde39640392bd175b507503c3dbf6173aa1b97"), looks := true }, kinds := [], alts := [], laidByText := true, laidKinds := [.data, .data, .data, .sentinel, .sentinel], laidTests := true, laidLooks := .later }
def SetcmdPopsUptoCardSaid : Prop := Claim7.holds Tryz.pinned (.plain (OpenSpec.upto setcmdPopsSpec)) setcmdPopsUptoCard
end Rows
end Go.Proofs.YtoganolkgmilaaaGreatDoor
