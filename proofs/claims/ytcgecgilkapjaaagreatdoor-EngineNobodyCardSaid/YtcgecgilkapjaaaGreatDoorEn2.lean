import Derived.Test.YtcgecgilkapjaaaGreatDoorRows
namespace Go.Proofs.YtcgecgilkapjaaaGreatDoor
open Go
theorem engineNobody_f2 : (Rows.engineNobodyRow.unfollowed == Tryz.pinned.checked.prog.unfollowed 3) = true := by kernel_rfl
end Go.Proofs.YtcgecgilkapjaaaGreatDoor
