/- What the reckoner is told ahead. -/
import Derived.Test.YtlbdpcokddpjpaaGreatDoorCheck
import Derived.Test.YtlbdpcokddpjpaaGreatDoorShelf
import Derived.Test.YtlbdpcokddpjpaaGreatDoorRk5
namespace Go.Proofs.YtlbdpcokddpjpaaGreatDoor
open Go Go.Proofs Go.Proofs.YtlbdpcokddpjpaaGreatDoor.Rk
set_option linter.unusedVariables false
theorem plain_ : plainFuncs Tryz.prog = true := by kernel_rfl
theorem mixed_ : Tryz.prog.follows .mixedOrders = true := by kernel_rfl
theorem t_check : ToldT Tryz.prog 372 (oCheck [(346, 2)]) := (told_check check_used check_fresh_any).toT plain_ (by kernel_rfl)
theorem t_indexbyte : ToldT Tryz.prog 218 oIndexByte := (told_indexbyte Tryz.strings_IndexByte).toT plain_ (by kernel_rfl)
theorem t_count : ToldT Tryz.prog 301 oCount := (told_count Tryz.strings_Count_one).toT plain_ (by kernel_rfl)
theorem t_clone : ToldT Tryz.prog 162 oClone := (told_clone Tryz.stringslite_Clone).toT plain_ (by kernel_rfl)
theorem t_index : ToldT Tryz.prog 202 oIndex := (told_index Tryz.strings_Index_one).toT plain_ (by kernel_rfl)
noncomputable def told0 : Rk.Told := addT (addT (addT (addT (addT (fun _ => none) 218 oIndexByte) 301 oCount) 372 (oCheck [(346, 2)])) 162 oClone) 202 oIndex
theorem told0_ok : TSound Tryz.prog told0 := (((((TSound.none).add t_indexbyte).add t_count).add t_check).add t_clone).add t_index
end Go.Proofs.YtlbdpcokddpjpaaGreatDoor
