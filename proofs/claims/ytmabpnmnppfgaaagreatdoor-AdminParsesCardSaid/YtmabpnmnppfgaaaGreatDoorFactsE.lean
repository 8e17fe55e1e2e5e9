/- Closed facts of the row: what may enter. -/
import Derived.Test.YtmabpnmnppfgaaaGreatDoorRows
import Derived.JoinedOf
import Derived.SevenTiedAt
import Derived.WalkKit
namespace Go.Proofs.YtmabpnmnppfgaaaGreatDoor
open Go
set_option linter.unusedVariables false
set_option maxRecDepth 100000
theorem fact26 : (Tryz.prog.mayEnter) = true := by kernel_rfl
end Go.Proofs.YtmabpnmnppfgaaaGreatDoor
