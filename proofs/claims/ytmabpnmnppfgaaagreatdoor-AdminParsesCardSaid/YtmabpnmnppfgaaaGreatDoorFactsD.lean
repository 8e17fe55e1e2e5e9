/- Closed facts of the row: its stops. -/
import Derived.Test.YtmabpnmnppfgaaaGreatDoorRows
import Derived.JoinedOf
import Derived.SevenTiedAt
import Derived.WalkKit
namespace Go.Proofs.YtmabpnmnppfgaaaGreatDoor
open Go
set_option linter.unusedVariables false
set_option maxRecDepth 100000
theorem fact25 : (Tryz.prog.stopsHeard) = true := by kernel_rfl
end Go.Proofs.YtmabpnmnppfgaaaGreatDoor
