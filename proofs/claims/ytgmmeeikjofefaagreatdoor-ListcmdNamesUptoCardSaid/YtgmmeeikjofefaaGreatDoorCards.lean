/-
  DERIVED. GIVEN WITH THE SEED: THE CARDS: each row of YtgmmeeikjofefaaGreatDoorRows.lean that lists a variable, with what it lists TIED to the program's text (the seventh form; the later family's looks); each row that meets fmt, with fmt's text TOLD by the authors' own Lean function (tested against real Go, not proved from fmt's source: count such statements apart). THE CARD IS WHAT COUNTS. Prove the row's statement (the work); the ties are given (YtgmmeeikjofefaaGreatDoorTie.lean); close each card by the builder's one call (the guide's Derived/Test/ToyasCard.lean, 'card_holds'). Laid BY PROGRAM, IN A SANDBOX (cutbox-door.mjs). By AI agents, Wed Nov 11 2026. No macro, syntax, notation, axiom, sorry.
-/
import Derived.Test.YtgmmeeikjofefaaGreatDoorRows
import GoSem.ClaimSeven
namespace Go.Proofs.YtgmmeeikjofefaaGreatDoor
namespace Rows

/-- THE TIED CARD OF 'covenantlaw19.ListcmdMoves'. -/
def listcmdMovesCard : Claim7 := { stood := { row := listcmdMovesRow, standIns := [], harness := (true, "f08f74c22ff86d0fc18c36a14ae25039c24bbe8ad44f50914ecfddce70c87926"), looks := true }, kinds := [], alts := [], laidByText := true, laidKinds := [.data, .data, .data, .sentinel, .sentinel], laidTests := true, laidLooks := .later }
def ListcmdMovesCardSaid : Prop := Claim7.holds Tryz.pinned (.plain (OpenSpec.ofChange listcmdMovesSpec)) listcmdMovesCard

/-- THE TIED CARD OF 'covenantlaw19.ListcmdTurns'. -/
def listcmdTurnsCard : Claim7 := { stood := { row := listcmdTurnsRow, standIns := [], harness := (true, "f08f74c22ff86d0fc18c36a14ae25039c24bbe8ad44f50914ecfddce70c87926"), looks := true }, kinds := [], alts := [], laidByText := true, laidKinds := [.data, .data, .data, .sentinel, .sentinel], laidTests := true, laidLooks := .later }
def ListcmdTurnsCardSaid : Prop := Claim7.holds Tryz.pinned (.plain (OpenSpec.ofChange listcmdTurnsSpec)) listcmdTurnsCard

/-- THE TIED CARD OF 'covenantlaw19.ListcmdNames'. -/
def listcmdNamesCard : Claim7 := { stood := { row := listcmdNamesRow, standIns := [], harness := (true, "f08f74c22ff86d0fc18c36a14ae25039c24bbe8ad44f50914ecfddce70c87926"), looks := true }, kinds := [], alts := [], laidByText := true, laidKinds := [.data, .data, .data, .sentinel, .sentinel], laidTests := true, laidLooks := .later }
def ListcmdNamesCardSaid : Prop := Claim7.holds Tryz.pinned (.plain (OpenSpec.ofChange listcmdNamesSpec)) listcmdNamesCard

/-- THE TIED CARD OF 'covenantlaw19.ListcmdKeeps'. -/
def listcmdKeepsCard : Claim7 := { stood := { row := listcmdKeepsRow, standIns := [], harness := (true, "f08f74c22ff86d0fc18c36a14ae25039c24bbe8ad44f50914ecfddce70c87926"), looks := true }, kinds := [], alts := [], laidByText := true, laidKinds := [.data, .data, .data, .sentinel, .sentinel], laidTests := true, laidLooks := .later }
def ListcmdKeepsCardSaid : Prop := Claim7.holds Tryz.pinned (.plain (OpenSpec.ofChange listcmdKeepsSpec)) listcmdKeepsCard

/-- THE TIED CARD OF 'covenantlaw19.ListcmdFinds'. -/
def listcmdFindsCard : Claim7 := { stood := { row := listcmdFindsRow, standIns := [], harness := (true, "f08f74c22ff86d0fc18c36a14ae25039c24bbe8ad44f50914ecfddce70c87926"), looks := true }, kinds := [], alts := [], laidByText := true, laidKinds := [.data, .data, .data, .sentinel, .sentinel], laidTests := true, laidLooks := .later }
def ListcmdFindsCardSaid : Prop := Claim7.holds Tryz.pinned (.plain (OpenSpec.ofChange listcmdFindsSpec)) listcmdFindsCard

/-- THE TIED CARD OF 'covenantlaw19.ListcmdRuns'. -/
def listcmdRunsCard : Claim7 := { stood := { row := listcmdRunsRow, standIns := [], harness := (true, "f08f74c22ff86d0fc18c36a14ae25039c24bbe8ad44f50914ecfddce70c87926"), looks := true }, kinds := [], alts := [], laidByText := true, laidKinds := [.data, .data, .data, .sentinel, .sentinel], laidTests := true, laidLooks := .later }
def ListcmdRunsCardSaid : Prop := Claim7.holds Tryz.pinned (.plain (OpenSpec.ofChange listcmdRunsSpec)) listcmdRunsCard

/-- THE TIED CARD OF 'covenantlaw19.ListcmdRefused'. -/
def listcmdRefusedCard : Claim7 := { stood := { row := listcmdRefusedRow, standIns := [], harness := (true, "f08f74c22ff86d0fc18c36a14ae25039c24bbe8ad44f50914ecfddce70c87926"), looks := true }, kinds := [], alts := [], laidByText := true, laidKinds := [.data, .data, .data, .sentinel, .sentinel], laidTests := true, laidLooks := .later }
def ListcmdRefusedCardSaid : Prop := Claim7.holds Tryz.pinned (.plain (OpenSpec.ofChange listcmdRefusedSpec)) listcmdRefusedCard

/-- THE SECOND FORM's CARD OF 'covenantlaw19.ListcmdMoves'. -/
def listcmdMovesUptoCard : Claim7 := { stood := { row := listcmdMovesUptoRow, standIns := [], harness := (true, "f08f74c22ff86d0fc18c36a14ae25039c24bbe8ad44f50914ecfddce70c87926"), looks := true }, kinds := [], alts := [], laidByText := true, laidKinds := [.data, .data, .data, .sentinel, .sentinel], laidTests := true, laidLooks := .later }
def ListcmdMovesUptoCardSaid : Prop := Claim7.holds Tryz.pinned (.plain (OpenSpec.upto listcmdMovesSpec)) listcmdMovesUptoCard

/-- THE SECOND FORM's CARD OF 'covenantlaw19.ListcmdTurns'. -/
def listcmdTurnsUptoCard : Claim7 := { stood := { row := listcmdTurnsUptoRow, standIns := [], harness := (true, "f08f74c22ff86d0fc18c36a14ae25039c24bbe8ad44f50914ecfddce70c87926"), looks := true }, kinds := [], alts := [], laidByText := true, laidKinds := [.data, .data, .data, .sentinel, .sentinel], laidTests := true, laidLooks := .later }
def ListcmdTurnsUptoCardSaid : Prop := Claim7.holds Tryz.pinned (.plain (OpenSpec.upto listcmdTurnsSpec)) listcmdTurnsUptoCard

/-- THE SECOND FORM's CARD OF 'covenantlaw19.ListcmdNames'. -/
def listcmdNamesUptoCard : Claim7 := { stood := { row := listcmdNamesUptoRow, standIns := [], harness := (true, "f08f74c22ff86d0fc18c36a14ae25039c24bbe8ad44f50914ecfddce70c87926"), looks := true }, kinds := [], alts := [], laidByText := true, laidKinds := [.data, .data, .data, .sentinel, .sentinel], laidTests := true, laidLooks := .later }
def ListcmdNamesUptoCardSaid : Prop := Claim7.holds Tryz.pinned (.plain (OpenSpec.upto listcmdNamesSpec)) listcmdNamesUptoCard

/-- THE SECOND FORM's CARD OF 'covenantlaw19.ListcmdKeeps'. -/
def listcmdKeepsUptoCard : Claim7 := { stood := { row := listcmdKeepsUptoRow, standIns := [], harness := (true, "f08f74c22ff86d0fc18c36a14ae25039c24bbe8ad44f50914ecfddce70c87926"), looks := true }, kinds := [], alts := [], laidByText := true, laidKinds := [.data, .data, .data, .sentinel, .sentinel], laidTests := true, laidLooks := .later }
def ListcmdKeepsUptoCardSaid : Prop := Claim7.holds Tryz.pinned (.plain (OpenSpec.upto listcmdKeepsSpec)) listcmdKeepsUptoCard

/-- THE SECOND FORM's CARD OF 'covenantlaw19.ListcmdFinds'. -/
def listcmdFindsUptoCard : Claim7 := { stood := { row := listcmdFindsUptoRow, standIns := [], harness := (true, "f08f74c22ff86d0fc18c36a14ae25039c24bbe8ad44f50914ecfddce70c87926"), looks := true }, kinds := [], alts := [], laidByText := true, laidKinds := [.data, .data, .data, .sentinel, .sentinel], laidTests := true, laidLooks := .later }
def ListcmdFindsUptoCardSaid : Prop := Claim7.holds Tryz.pinned (.plain (OpenSpec.upto listcmdFindsSpec)) listcmdFindsUptoCard

/-- THE SECOND FORM's CARD OF 'covenantlaw19.ListcmdRuns'. -/
def listcmdRunsUptoCard : Claim7 := { stood := { row := listcmdRunsUptoRow, standIns := [], harness := (true, "f08f74c22ff86d0fc18c36a14ae25039c24bbe8ad44f50914ecfddce70c87926"), looks := true }, kinds := [], alts := [], laidByText := true, laidKinds := [.data, .data, .data, .sentinel, .sentinel], laidTests := true, laidLooks := .later }
def ListcmdRunsUptoCardSaid : Prop := Claim7.holds Tryz.pinned (.plain (OpenSpec.upto listcmdRunsSpec)) listcmdRunsUptoCard

/-- THE SECOND FORM's CARD OF 'covenantlaw19.ListcmdRefused'. -/
def listcmdRefusedUptoCard : Claim7 := { stood := { row := listcmdRefusedUptoRow, standIns := [], harness := (true, "f08f74c22ff86d0fc18c36a14ae25039c24bbe8ad44f50914ecfddce70c87926"), looks := true }, kinds := [], alts := [], laidByText := true, laidKinds := [.data, .data, .data, .sentinel, .sentinel], laidTests := true, laidLooks := .later }
def ListcmdRefusedUptoCardSaid : Prop := Claim7.holds Tryz.pinned (.plain (OpenSpec.upto listcmdRefusedSpec)) listcmdRefusedUptoCard
end Rows
end Go.Proofs.YtgmmeeikjofefaaGreatDoor
