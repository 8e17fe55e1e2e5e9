/- One closed fact of the tie. -/
import Derived.Test.YtceafmknfkaedaaGreatDoorProg
import Derived.LaidByTextLater
namespace Go.Proofs.YtceafmknfkaedaaGreatDoor
open Go
theorem tieA : Tryz.prog.worded (varsWordLater true) = true := by kernel_rfl
end Go.Proofs.YtceafmknfkaedaaGreatDoor
