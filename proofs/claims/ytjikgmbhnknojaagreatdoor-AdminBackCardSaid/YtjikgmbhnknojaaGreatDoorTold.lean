/- What the reckoner is told ahead. -/
import Derived.Test.YtjikgmbhnknojaaGreatDoorShelf
import Derived.Test.YtjikgmbhnknojaaGreatDoorRk5
namespace Go.Proofs.YtjikgmbhnknojaaGreatDoor
open Go Go.Proofs Go.Proofs.YtjikgmbhnknojaaGreatDoor.Rk
set_option linter.unusedVariables false
theorem plain_ : plainFuncs Tryz.prog = true := by kernel_rfl
theorem mixed_ : Tryz.prog.follows .mixedOrders = true := Tryz.lays156.mixed
theorem t_clone : ToldT Tryz.prog 128 oClone := (told_clone Tryz.stringslite_Clone).toT plain_ (by kernel_rfl)
noncomputable def told0 : Rk.Told := addT (fun _ => none) 128 oClone
theorem told0_ok : TSound Tryz.prog told0 := (TSound.none).add t_clone
end Go.Proofs.YtjikgmbhnknojaaGreatDoor
