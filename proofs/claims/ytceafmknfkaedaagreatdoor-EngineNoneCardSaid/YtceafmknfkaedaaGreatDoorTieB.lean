/- One closed fact of the tie. -/
import Derived.Test.YtceafmknfkaedaaGreatDoorProg
import Derived.LaidByTextLater
namespace Go.Proofs.YtceafmknfkaedaaGreatDoor
open Go
theorem tieB : Tryz.prog.worded (varsWordLater !true) = false := by kernel_rfl
end Go.Proofs.YtceafmknfkaedaaGreatDoor
