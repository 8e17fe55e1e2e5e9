/- The set-up's own check, reckoned: alive returns true at every tape, and nothing that was there turns. -/
import Derived.Test.YtjikgmbhnknojaaGreatDoorTold
import Derived.Test.YtjikgmbhnknojaaGreatDoorA11
namespace Go.Proofs.YtjikgmbhnknojaaGreatDoor
open Go Go.Proofs Go.Proofs.YtjikgmbhnknojaaGreatDoor.Rk
set_option linter.unusedVariables false
set_option maxRecDepth 1000000 in
theorem alive_run : ansTrue (call Tryz.prog told0 (dcall Tryz.prog 100000) 100000 300 4 [] ⟨.leaf, 0, []⟩) = true := by kernel_rfl
theorem alive_ok : AliveOk := fun w =>
  closed_args plain_ mixed_ told0_ok 100000 300 alive_run #[] .nil w
end Go.Proofs.YtjikgmbhnknojaaGreatDoor
