/- One closed fact of the tie. -/
import Derived.Test.YtceafmknfkaedaaGreatDoorProg
import Derived.LaidByTextLater
namespace Go.Proofs.YtceafmknfkaedaaGreatDoor
open Go
set_option maxRecDepth 1000000 in
theorem tieG : ∀ os tape, varsDone Tryz.prog 400 (varsId Tryz.prog) os tape = true := fun _ _ => by kernel_rfl
end Go.Proofs.YtceafmknfkaedaaGreatDoor
