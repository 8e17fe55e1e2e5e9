/- Closed facts of the row: its maps. -/
import Derived.Test.YtmabpnmnppfgaaaGreatDoorRows
import Derived.JoinedOf
import Derived.SevenTiedAt
import Derived.WalkKit
namespace Go.Proofs.YtmabpnmnppfgaaaGreatDoor
open Go
set_option linter.unusedVariables false
set_option maxRecDepth 100000
theorem fact3 : (mapsRowed Tryz.prog) = true := by kernel_rfl
end Go.Proofs.YtmabpnmnppfgaaaGreatDoor
