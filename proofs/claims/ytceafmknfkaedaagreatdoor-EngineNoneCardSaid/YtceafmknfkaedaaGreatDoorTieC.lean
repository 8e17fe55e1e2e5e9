/- One closed fact of the tie. -/
import Derived.Test.YtceafmknfkaedaaGreatDoorProg
import Derived.LaidByTextLater
namespace Go.Proofs.YtceafmknfkaedaaGreatDoor
open Go
theorem tieC : Tryz.prog.worded rootWordLater = true := by kernel_rfl
end Go.Proofs.YtceafmknfkaedaaGreatDoor
