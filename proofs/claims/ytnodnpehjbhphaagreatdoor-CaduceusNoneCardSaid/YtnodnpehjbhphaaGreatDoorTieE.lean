/- One closed fact of the tie. -/
import Derived.Test.YtnodnpehjbhphaaGreatDoorProg
import Derived.LaidByTextLater
namespace Go.Proofs.YtnodnpehjbhphaaGreatDoor
open Go
theorem tieE : (Tryz.prog.funcNamed "gosem.cut.vars").isSome = true := by kernel_rfl
end Go.Proofs.YtnodnpehjbhphaaGreatDoor
