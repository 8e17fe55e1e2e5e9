/- One closed fact of the tie. -/
import Derived.Test.YtceafmknfkaedaaGreatDoorProg
import Derived.LaidByTextLater
namespace Go.Proofs.YtceafmknfkaedaaGreatDoor
open Go
theorem tieE : (Tryz.prog.funcNamed "gosem.cut.vars").isSome = true := by kernel_rfl
end Go.Proofs.YtceafmknfkaedaaGreatDoor
