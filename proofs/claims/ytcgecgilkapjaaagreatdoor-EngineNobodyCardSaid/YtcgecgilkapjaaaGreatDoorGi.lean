import Derived.Test.YtcgecgilkapjaaaGreatDoorProg
import Derived.KernelRfl
import GoSem.ClaimSeven
import Derived.Test.YtcgecgilkapjaaaGreatDoorRows
import Derived.Test.YtcgecgilkapjaaaGreatDoorGj
namespace Go.Proofs.YtcgecgilkapjaaaGreatDoor
open Go
set_option maxRecDepth 10000 in
theorem goes_by (c : OpenClaim) : false = c.goesBy Tryz.pinned.checked.prog := by
  have e : Tryz.pinned.checked.prog = Tryz.prog := rfl
  have hg : Tryz.prog.goes = fun _ => false := funext fun f => goes_none no_go f
  unfold OpenClaim.goesBy Program.goesAt Program.goesFrom
  rw [e, hg]
  cases Tryz.prog.funcNamed c.func <;> (cases c.start <;> simp)
end Go.Proofs.YtcgecgilkapjaaaGreatDoor
