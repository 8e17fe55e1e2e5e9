/- One closed fact of the tie. -/
import Derived.Test.YtnodnpehjbhphaaGreatDoorProg
import Derived.LaidByTextLater
namespace Go.Proofs.YtnodnpehjbhphaaGreatDoor
open Go
theorem tieA : Tryz.prog.worded (varsWordLater true) = true := by kernel_rfl
end Go.Proofs.YtnodnpehjbhphaaGreatDoor
