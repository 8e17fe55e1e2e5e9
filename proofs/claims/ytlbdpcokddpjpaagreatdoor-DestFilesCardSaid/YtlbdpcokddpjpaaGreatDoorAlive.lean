/- The set-up's own check, reckoned: alive returns true at every tape, and nothing that was there turns. -/
import Derived.Test.YtlbdpcokddpjpaaGreatDoorM3
import Derived.Test.YtlbdpcokddpjpaaGreatDoorD8
namespace Go.Proofs.YtlbdpcokddpjpaaGreatDoor
open Go Go.Proofs Go.Proofs.YtlbdpcokddpjpaaGreatDoor.Rk
set_option linter.unusedVariables false
set_option maxRecDepth 1000000 in
theorem alive_run : ansTrue (call Tryz.prog (addT told0 memo5.f (oMemo memo5)) (dcall Tryz.prog 100000) 100000 300 5 [] ⟨.leaf, 0, []⟩) = true := by kernel_rfl
theorem alive_ok : AliveOk := fun w =>
  closed_args plain_ mixed_ (told0_ok.add told_m5) 100000 300 alive_run #[] .nil w
end Go.Proofs.YtlbdpcokddpjpaaGreatDoor
