import Derived.Test.YtcgecgilkapjaaaGreatDoorProg
import Derived.KernelRfl
import GoSem.ClaimSeven
import GoSem.ClaimSeven
namespace Go.Proofs.YtcgecgilkapjaaaGreatDoor
open Go
set_option maxRecDepth 10000 in
theorem j_heard : Tryz.prog.stopsHeard = true := by kernel_rfl
end Go.Proofs.YtcgecgilkapjaaaGreatDoor
