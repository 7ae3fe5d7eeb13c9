import Derived.Test.YtcgecgilkapjaaaGreatDoorRows
namespace Go.Proofs.YtcgecgilkapjaaaGreatDoor
open Go
theorem engineNobody_f1 : (Rows.engineNobodyRow.inPlace == Tryz.pinned.checked.prog.inPlace 3) = true := by kernel_rfl
end Go.Proofs.YtcgecgilkapjaaaGreatDoor
