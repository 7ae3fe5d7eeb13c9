/- EngineNobody, reckoned by the kernel. -/
import Derived.Test.YtcgecgilkapjaaaGreatDoorQd
import Derived.ProofKit
namespace Go.Proofs.YtcgecgilkapjaaaGreatDoor
open Go
set_option maxRecDepth 100000
theorem nobody_reckoned (n : Int) (v : Value) : isT (evCall X0 9 O0 1000 40 3 [.int .i64 n, v] st0) = true := by kernel_rfl
end Go.Proofs.YtcgecgilkapjaaaGreatDoor
