import Derived.Test.YtcgecgilkapjaaaGreatDoorRows
namespace Go.Proofs.YtcgecgilkapjaaaGreatDoor
open Go
theorem engineNobody_f3 : (Rows.engineNobodyRow.recurses == Tryz.pinned.checked.prog.recurses 3) = true := by kernel_rfl
end Go.Proofs.YtcgecgilkapjaaaGreatDoor
