import Derived.Test.YtcgecgilkapjaaaGreatDoorEn1
import Derived.Test.YtcgecgilkapjaaaGreatDoorEn2
import Derived.Test.YtcgecgilkapjaaaGreatDoorEn3
import Derived.Test.YtcgecgilkapjaaaGreatDoorEn4
import Derived.Test.YtcgecgilkapjaaaGreatDoorLz
import Derived.Test.YtcgecgilkapjaaaGreatDoorJa
import Derived.Test.YtcgecgilkapjaaaGreatDoorJb
import Derived.Test.YtcgecgilkapjaaaGreatDoorJc
import Derived.Test.YtcgecgilkapjaaaGreatDoorJe
import Derived.JoinedOf
namespace Go.Proofs.YtcgecgilkapjaaaGreatDoor
open Go
theorem engineNobody_closed : joinedFacts Tryz.pinned.checked.prog 3 Tryz.f3 (OpenSpec.ofChange Rows.engineNobodySpec).bare Rows.engineNobodyRow = true := by
  unfold joinedFacts
  rw [engineNobody_f1, engineNobody_f2, engineNobody_f3, engineNobody_f4, show laidOutB Tryz.pinned.checked.prog = true from laidR, show (Tryz.pinned.checked.prog.stops == []) = true from j_stops, show (Tryz.pinned.checked.prog.stopKnobs == []) = true from j_knobs, show Tryz.pinned.checked.prog.stopsHeard = true from j_heard, show Tryz.pinned.checked.prog.mayEnter = true from j_enter]
  kernel_rfl
end Go.Proofs.YtcgecgilkapjaaaGreatDoor
