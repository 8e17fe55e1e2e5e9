/- One closed fact of the tie. -/
import Derived.Test.YtnodnpehjbhphaaGreatDoorProg
import Derived.LaidByTextLater
namespace Go.Proofs.YtnodnpehjbhphaaGreatDoor
open Go
theorem tieB : Tryz.prog.worded (varsWordLater !true) = false := by kernel_rfl
end Go.Proofs.YtnodnpehjbhphaaGreatDoor
