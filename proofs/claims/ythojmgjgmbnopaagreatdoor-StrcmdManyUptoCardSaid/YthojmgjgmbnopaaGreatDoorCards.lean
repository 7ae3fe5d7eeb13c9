/-
  DERIVED. GIVEN WITH THE SEED: THE CARDS: each row of YthojmgjgmbnopaaGreatDoorRows.lean that lists a variable, with what it lists TIED to the program's text (the seventh form; the later family's looks); each row that meets fmt, with fmt's text TOLD by the authors' own Lean function (tested against real Go, not proved from fmt's source: count such statements apart). THE CARD IS WHAT COUNTS. Prove the row's statement (the work); the ties are given (YthojmgjgmbnopaaGreatDoorTie.lean); close each card by the builder's one call (the guide's Derived/Test/ToyasCard.lean, 'card_holds'). Laid BY PROGRAM, IN A SANDBOX (cutbox-door.mjs). By AI agents, Wed Nov 11 2026. No macro, syntax, notation, axiom, sorry.
-/
import Derived.Test.YthojmgjgmbnopaaGreatDoorRows
import GoSem.ClaimSeven
namespace Go.Proofs.YthojmgjgmbnopaaGreatDoor
namespace Rows

/-- THE TIED CARD OF 'covenantlaw17.StrcmdSets'. -/
def strcmdSetsCard : Claim7 := { stood := { row := strcmdSetsRow, standIns := [], harness := (true, "25a02cf571886679a7bcc0cb8fc18181a4a80513e647b08383b7febd0bfb4236"), looks := true }, kinds := [], alts := [], laidByText := true, laidKinds := [.data, .data, .data, .sentinel, .sentinel], laidTests := true, laidLooks := .later }
def StrcmdSetsCardSaid : Prop := Claim7.holds Tryz.pinned (.plain (OpenSpec.ofChange strcmdSetsSpec)) strcmdSetsCard

/-- THE TIED CARD OF 'covenantlaw17.StrcmdCounts'. -/
def strcmdCountsCard : Claim7 := { stood := { row := strcmdCountsRow, standIns := [], harness := (true, "25a02cf571886679a7bcc0cb8fc18181a4a80513e647b08383b7febd0bfb4236"), looks := true }, kinds := [], alts := [], laidByText := true, laidKinds := [.data, .data, .data, .sentinel, .sentinel], laidTests := true, laidLooks := .later }
def StrcmdCountsCardSaid : Prop := Claim7.holds Tryz.pinned (.plain (OpenSpec.ofChange strcmdCountsSpec)) strcmdCountsCard

/-- THE TIED CARD OF 'covenantlaw17.StrcmdBits'. -/
def strcmdBitsCard : Claim7 := { stood := { row := strcmdBitsRow, standIns := [], harness := (true, "25a02cf571886679a7bcc0cb8fc18181a4a80513e647b08383b7febd0bfb4236"), looks := true }, kinds := [], alts := [], laidByText := true, laidKinds := [.data, .data, .data, .sentinel, .sentinel], laidTests := true, laidLooks := .later }
def StrcmdBitsCardSaid : Prop := Claim7.holds Tryz.pinned (.plain (OpenSpec.ofChange strcmdBitsSpec)) strcmdBitsCard

/-- THE TIED CARD OF 'covenantlaw18.KeycmdNames'. -/
def keycmdNamesCard : Claim7 := { stood := { row := keycmdNamesRow, standIns := [], harness := (true, "25a02cf571886679a7bcc0cb8fc18181a4a80513e647b08383b7febd0bfb4236"), looks := true }, kinds := [], alts := [], laidByText := true, laidKinds := [.data, .data, .data, .sentinel, .sentinel], laidTests := true, laidLooks := .later }
def KeycmdNamesCardSaid : Prop := Claim7.holds Tryz.pinned (.plain (OpenSpec.ofChange keycmdNamesSpec)) keycmdNamesCard

/-- THE TIED CARD OF 'covenantlaw18.KeycmdBack'. -/
def keycmdBackCard : Claim7 := { stood := { row := keycmdBackRow, standIns := [], harness := (true, "25a02cf571886679a7bcc0cb8fc18181a4a80513e647b08383b7febd0bfb4236"), looks := true }, kinds := [], alts := [], laidByText := true, laidKinds := [.data, .data, .data, .sentinel, .sentinel], laidTests := true, laidLooks := .later }
def KeycmdBackCardSaid : Prop := Claim7.holds Tryz.pinned (.plain (OpenSpec.ofChange keycmdBackSpec)) keycmdBackCard

/-- THE TIED CARD OF 'covenantlaw18.KeycmdDeadlines'. -/
def keycmdDeadlinesCard : Claim7 := { stood := { row := keycmdDeadlinesRow, standIns := [], harness := (true, "25a02cf571886679a7bcc0cb8fc18181a4a80513e647b08383b7febd0bfb4236"), looks := true }, kinds := [], alts := [], laidByText := true, laidKinds := [.data, .data, .data, .sentinel, .sentinel], laidTests := true, laidLooks := .later }
def KeycmdDeadlinesCardSaid : Prop := Claim7.holds Tryz.pinned (.plain (OpenSpec.ofChange keycmdDeadlinesSpec)) keycmdDeadlinesCard

/-- THE TIED CARD OF 'covenantlaw18.KeycmdWalk'. -/
def keycmdWalkCard : Claim7 := { stood := { row := keycmdWalkRow, standIns := [], harness := (true, "25a02cf571886679a7bcc0cb8fc18181a4a80513e647b08383b7febd0bfb4236"), looks := true }, kinds := [], alts := [], laidByText := true, laidKinds := [.data, .data, .data, .sentinel, .sentinel], laidTests := true, laidLooks := .later }
def KeycmdWalkCardSaid : Prop := Claim7.holds Tryz.pinned (.plain (OpenSpec.ofChange keycmdWalkSpec)) keycmdWalkCard

/-- THE TIED CARD OF 'covenantlaw18.KeycmdRuns'. -/
def keycmdRunsCard : Claim7 := { stood := { row := keycmdRunsRow, standIns := [], harness := (true, "25a02cf571886679a7bcc0cb8fc18181a4a80513e647b08383b7febd0bfb4236"), looks := true }, kinds := [], alts := [], laidByText := true, laidKinds := [.data, .data, .data, .sentinel, .sentinel], laidTests := true, laidLooks := .later }
def KeycmdRunsCardSaid : Prop := Claim7.holds Tryz.pinned (.plain (OpenSpec.ofChange keycmdRunsSpec)) keycmdRunsCard

/-- THE TIED CARD OF 'covenantlaw18.KeycmdQuiet'. -/
def keycmdQuietCard : Claim7 := { stood := { row := keycmdQuietRow, standIns := [], harness := (true, "25a02cf571886679a7bcc0cb8fc18181a4a80513e647b08383b7febd0bfb4236"), looks := true }, kinds := [], alts := [], laidByText := true, laidKinds := [.data, .data, .data, .sentinel, .sentinel], laidTests := true, laidLooks := .later }
def KeycmdQuietCardSaid : Prop := Claim7.holds Tryz.pinned (.plain (OpenSpec.ofChange keycmdQuietSpec)) keycmdQuietCard

/-- THE TIED CARD OF 'covenantlaw17.StrcmdNames'. -/
def strcmdNamesCard : Claim7 := { stood := { row := strcmdNamesRow, standIns := [], harness := (true, "25a02cf571886679a7bcc0cb8fc18181a4a80513e647b08383b7febd0bfb4236"), looks := true }, kinds := [], alts := [], laidByText := true, laidKinds := [.data, .data, .data, .sentinel, .sentinel], laidTests := true, laidLooks := .later }
def StrcmdNamesCardSaid : Prop := Claim7.holds Tryz.pinned (.plain (OpenSpec.ofChange strcmdNamesSpec)) strcmdNamesCard

/-- THE TIED CARD OF 'covenantlaw17.StrcmdMany'. -/
def strcmdManyCard : Claim7 := { stood := { row := strcmdManyRow, standIns := [], harness := (true, "25a02cf571886679a7bcc0cb8fc18181a4a80513e647b08383b7febd0bfb4236"), looks := true }, kinds := [], alts := [], laidByText := true, laidKinds := [.data, .data, .data, .sentinel, .sentinel], laidTests := true, laidLooks := .later }
def StrcmdManyCardSaid : Prop := Claim7.holds Tryz.pinned (.plain (OpenSpec.ofChange strcmdManySpec)) strcmdManyCard

/-- THE TIED CARD OF 'covenantlaw17.StrcmdRefused'. -/
def strcmdRefusedCard : Claim7 := { stood := { row := strcmdRefusedRow, standIns := [], harness := (true, "25a02cf571886679a7bcc0cb8fc18181a4a80513e647b08383b7febd0bfb4236"), looks := true }, kinds := [], alts := [], laidByText := true, laidKinds := [.data, .data, .data, .sentinel, .sentinel], laidTests := true, laidLooks := .later }
def StrcmdRefusedCardSaid : Prop := Claim7.holds Tryz.pinned (.plain (OpenSpec.ofChange strcmdRefusedSpec)) strcmdRefusedCard

/-- THE SECOND FORM's CARD OF 'covenantlaw17.StrcmdSets'. -/
def strcmdSetsUptoCard : Claim7 := { stood := { row := strcmdSetsUptoRow, standIns := [], harness := (true, "25a02cf571886679a7bcc0cb8fc18181a4a80513e647b08383b7febd0bfb4236"), looks := true }, kinds := [], alts := [], laidByText := true, laidKinds := [.data, .data, .data, .sentinel, .sentinel], laidTests := true, laidLooks := .later }
def StrcmdSetsUptoCardSaid : Prop := Claim7.holds Tryz.pinned (.plain (OpenSpec.upto strcmdSetsSpec)) strcmdSetsUptoCard

/-- THE SECOND FORM's CARD OF 'covenantlaw17.StrcmdCounts'. -/
def strcmdCountsUptoCard : Claim7 := { stood := { row := strcmdCountsUptoRow, standIns := [], harness := (true, "25a02cf571886679a7bcc0cb8fc18181a4a80513e647b08383b7febd0bfb4236"), looks := true }, kinds := [], alts := [], laidByText := true, laidKinds := [.data, .data, .data, .sentinel, .sentinel], laidTests := true, laidLooks := .later }
def StrcmdCountsUptoCardSaid : Prop := Claim7.holds Tryz.pinned (.plain (OpenSpec.upto strcmdCountsSpec)) strcmdCountsUptoCard

/-- THE SECOND FORM's CARD OF 'covenantlaw17.StrcmdBits'. -/
def strcmdBitsUptoCard : Claim7 := { stood := { row := strcmdBitsUptoRow, standIns := [], harness := (true, "25a02cf571886679a7bcc0cb8fc18181a4a80513e647b08383b7febd0bfb4236"), looks := true }, kinds := [], alts := [], laidByText := true, laidKinds := [.data, .data, .data, .sentinel, .sentinel], laidTests := true, laidLooks := .later }
def StrcmdBitsUptoCardSaid : Prop := Claim7.holds Tryz.pinned (.plain (OpenSpec.upto strcmdBitsSpec)) strcmdBitsUptoCard

/-- THE SECOND FORM's CARD OF 'covenantlaw18.KeycmdNames'. -/
def keycmdNamesUptoCard : Claim7 := { stood := { row := keycmdNamesUptoRow, standIns := [], harness := (true, "25a02cf571886679a7bcc0cb8fc18181a4a80513e647b08383b7febd0bfb4236"), looks := true }, kinds := [], alts := [], laidByText := true, laidKinds := [.data, .data, .data, .sentinel, .sentinel], laidTests := true, laidLooks := .later }
def KeycmdNamesUptoCardSaid : Prop := Claim7.holds Tryz.pinned (.plain (OpenSpec.upto keycmdNamesSpec)) keycmdNamesUptoCard

/-- THE SECOND FORM's CARD OF 'covenantlaw18.KeycmdBack'. -/
def keycmdBackUptoCard : Claim7 := { stood := { row := keycmdBackUptoRow, standIns := [], harness := (true, "25a02cf571886679a7bcc0cb8fc18181a4a80513e647b08383b7febd0bfb4236"), looks := true }, kinds := [], alts := [], laidByText := true, laidKinds := [.data, .data, .data, .sentinel, .sentinel], laidTests := true, laidLooks := .later }
def KeycmdBackUptoCardSaid : Prop := Claim7.holds Tryz.pinned (.plain (OpenSpec.upto keycmdBackSpec)) keycmdBackUptoCard

/-- THE SECOND FORM's CARD OF 'covenantlaw18.KeycmdDeadlines'. -/
def keycmdDeadlinesUptoCard : Claim7 := { stood := { row := keycmdDeadlinesUptoRow, standIns := [], harness := (true, "25a02cf571886679a7bcc0cb8fc18181a4a80513e647b08383b7febd0bfb4236"), looks := true }, kinds := [], alts := [], laidByText := true, laidKinds := [.data, .data, .data, .sentinel, .sentinel], laidTests := true, laidLooks := .later }
def KeycmdDeadlinesUptoCardSaid : Prop := Claim7.holds Tryz.pinned (.plain (OpenSpec.upto keycmdDeadlinesSpec)) keycmdDeadlinesUptoCard

/-- THE SECOND FORM's CARD OF 'covenantlaw18.KeycmdWalk'. -/
def keycmdWalkUptoCard : Claim7 := { stood := { row := keycmdWalkUptoRow, standIns := [], harness := (true, "25a02cf571886679a7bcc0cb8fc18181a4a80513e647b08383b7febd0bfb4236"), looks := true }, kinds := [], alts := [], laidByText := true, laidKinds := [.data, .data, .data, .sentinel, .sentinel], laidTests := true, laidLooks := .later }
def KeycmdWalkUptoCardSaid : Prop := Claim7.holds Tryz.pinned (.plain (OpenSpec.upto keycmdWalkSpec)) keycmdWalkUptoCard

/-- THE SECOND FORM's CARD OF 'covenantlaw18.KeycmdRuns'. -/
def keycmdRunsUptoCard : Claim7 := { stood := { row := keycmdRunsUptoRow, standIns := [], harness := (true, "25a02cf571886679a7bcc0cb8fc18181a4a80513e647b08383b7febd0bfb4236"), looks := true }, kinds := [], alts := [], laidByText := true, laidKinds := [.data, .data, .data, .sentinel, .sentinel], laidTests := true, laidLooks := .later }
def KeycmdRunsUptoCardSaid : Prop := Claim7.holds Tryz.pinned (.plain (OpenSpec.upto keycmdRunsSpec)) keycmdRunsUptoCard

/-- THE SECOND FORM's CARD OF 'covenantlaw18.KeycmdQuiet'. -/
def keycmdQuietUptoCard : Claim7 := { stood := { row := keycmdQuietUptoRow, standIns := [], harness := (true, "25a02cf571886679a7bcc0cb8fc18181a4a80513e647b08383b7febd0bfb4236"), looks := true }, kinds := [], alts := [], laidByText := true, laidKinds := [.data, .data, .data, .sentinel, .sentinel], laidTests := true, laidLooks := .later }
def KeycmdQuietUptoCardSaid : Prop := Claim7.holds Tryz.pinned (.plain (OpenSpec.upto keycmdQuietSpec)) keycmdQuietUptoCard

/-- THE SECOND FORM's CARD OF 'covenantlaw17.StrcmdNames'. -/
def strcmdNamesUptoCard : Claim7 := { stood := { row := strcmdNamesUptoRow, standIns := [], harness := (true, "25a02cf571886679a7bcc0cb8fc18181a4a80513e647b08383b7febd0bfb4236"), looks := true }, kinds := [], alts := [], laidByText := true, laidKinds := [.data, .data, .data, .sentinel, .sentinel], laidTests := true, laidLooks := .later }
def StrcmdNamesUptoCardSaid : Prop := Claim7.holds Tryz.pinned (.plain (OpenSpec.upto strcmdNamesSpec)) strcmdNamesUptoCard

/-- THE SECOND FORM's CARD OF 'covenantlaw17.StrcmdMany'. -/
def strcmdManyUptoCard : Claim7 := { stood := { row := strcmdManyUptoRow, standIns := [], harness := (true, "25a02cf571886679a7bcc0cb8fc18181a4a80513e647b08383b7febd0bfb4236"), looks := true }, kinds := [], alts := [], laidByText := true, laidKinds := [.data, .data, .data, .sentinel, .sentinel], laidTests := true, laidLooks := .later }
def StrcmdManyUptoCardSaid : Prop := Claim7.holds Tryz.pinned (.plain (OpenSpec.upto strcmdManySpec)) strcmdManyUptoCard

/-- THE SECOND FORM's CARD OF 'covenantlaw17.StrcmdRefused'. -/
def strcmdRefusedUptoCard : Claim7 := { stood := { row := strcmdRefusedUptoRow, standIns := [], harness := (true, "25a02cf571886679a7bcc0cb8fc18181a4a80513e647b08383b7febd0bfb4236"), looks := true }, kinds := [], alts := [], laidByText := true, laidKinds := [.data, .data, .data, .sentinel, .sentinel], laidTests := true, laidLooks := .later }
def StrcmdRefusedUptoCardSaid : Prop := Claim7.holds Tryz.pinned (.plain (OpenSpec.upto strcmdRefusedSpec)) strcmdRefusedUptoCard
end Rows
end Go.Proofs.YthojmgjgmbnopaaGreatDoor
