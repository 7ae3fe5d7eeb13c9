/-
  DERIVED. GIVEN WITH THE SEED: THE CARDS: each row of YtcgecgilkapjaaaGreatDoorRows.lean that lists a variable, with what it lists TIED to the program's text (the seventh form; the later family's looks); each row that meets fmt, with fmt's text TOLD by the authors' own Lean function (tested against real Go, not proved from fmt's source: count such statements apart). THE CARD IS WHAT COUNTS. Prove the row's statement (the work); the ties are given (YtcgecgilkapjaaaGreatDoorTie.lean); close each card by the builder's one call (the guide's Derived/Test/ToyasCard.lean, 'card_holds'). Laid BY PROGRAM, IN A SANDBOX (cutbox-door.mjs). By AI agents, Wed Nov 11 2026. No macro, syntax, notation, axiom, sorry.
-/
import Derived.Test.YtcgecgilkapjaaaGreatDoorRows
import GoSem.ClaimSeven
namespace Go.Proofs.YtcgecgilkapjaaaGreatDoor
namespace Rows

/-- THE TIED CARD OF 'covenantlaw24.EngineNobody'. -/
def engineNobodyCard : Claim7 := { stood := { row := engineNobodyRow, standIns := [], harness := (true, "67f6fb788145882bd35f8d17933cc5ea6af5e016b23ace808ce2c2adf1a1fd30"), looks := true }, kinds := [], alts := [], laidByText := true, laidKinds := [.data, .data, .data, .sentinel, .sentinel], laidTests := true, laidLooks := .later }
def EngineNobodyCardSaid : Prop := Claim7.holds Tryz.pinned (.plain (OpenSpec.ofChange engineNobodySpec)) engineNobodyCard

/-- THE SECOND FORM's CARD OF 'covenantlaw24.EngineNobody'. -/
def engineNobodyUptoCard : Claim7 := { stood := { row := engineNobodyUptoRow, standIns := [], harness := (true, "67f6fb788145882bd35f8d17933cc5ea6af5e016b23ace808ce2c2adf1a1fd30"), looks := true }, kinds := [], alts := [], laidByText := true, laidKinds := [.data, .data, .data, .sentinel, .sentinel], laidTests := true, laidLooks := .later }
def EngineNobodyUptoCardSaid : Prop := Claim7.holds Tryz.pinned (.plain (OpenSpec.upto engineNobodySpec)) engineNobodyUptoCard
end Rows
end Go.Proofs.YtcgecgilkapjaaaGreatDoor
