/- Closed facts of the row: its function. -/
import Derived.Test.YtmabpnmnppfgaaaGreatDoorRows
import Derived.JoinedOf
import Derived.SevenTiedAt
import Derived.WalkKit
namespace Go.Proofs.YtmabpnmnppfgaaaGreatDoor
open Go
set_option linter.unusedVariables false
set_option maxRecDepth 100000
theorem funcIs : Tryz.prog.funcNamed "caduceus/caduceuslaw25.AdminParses" = some 3 := by kernel_rfl
theorem notMain : ¬ Check.packageOf Tryz.f3.name = "main" := by decide +kernel
end Go.Proofs.YtmabpnmnppfgaaaGreatDoor
