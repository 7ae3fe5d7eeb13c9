import Derived.Test.YtcgecgilkapjaaaGreatDoorRows
namespace Go.Proofs.YtcgecgilkapjaaaGreatDoor
open Go
theorem engineNobody_f4 : (Rows.engineNobodyRow.named == Tryz.pinned.checked.prog.varsNamed 3) = true := by kernel_rfl
end Go.Proofs.YtcgecgilkapjaaaGreatDoor
