/- Closed facts of the row: its maps. -/
import Derived.Test.YtlbdpcokddpjpaaGreatDoorRows
import Derived.JoinedOf
import Derived.SevenTiedAt
import Derived.WalkKit
namespace Go.Proofs.YtlbdpcokddpjpaaGreatDoor
open Go
set_option linter.unusedVariables false
set_option maxRecDepth 100000
theorem fact3 : (mapsRowed Tryz.prog) = true := by kernel_rfl
end Go.Proofs.YtlbdpcokddpjpaaGreatDoor
