/- KEYCMD: KeycmdNames, reckoned by the kernel, whatever the arguments are. -/
import Derived.Test.YthojmgjgmbnopaaGreatDoorQd
import Derived.ProofKit
namespace Go.Proofs.YthojmgjgmbnopaaGreatDoor
open Go
set_option maxRecDepth 100000
theorem names_reckoned (n : Int) (v : Value) : isT (evCall X0 5 O0 1000 30 6 [.int .i64 n, v] st0) = true := by kernel_rfl
end Go.Proofs.YthojmgjgmbnopaaGreatDoor
