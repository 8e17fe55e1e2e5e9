/- Part Al of the proof: the statement that is proved stands in the text that ends with its name. No conditions beyond the card's. -/
import Derived.Test.YtmabpnmnppfgaaaGreatDoorSh
import Derived.Test.YtmabpnmnppfgaaaGreatDoorRk5
namespace Go.Proofs.YtmabpnmnppfgaaaGreatDoor
open Go Go.Proofs Go.Proofs.YtmabpnmnppfgaaaGreatDoor.Rk
set_option linter.unusedVariables false
theorem plain_ : plainFuncs Tryz.prog = true := by kernel_rfl
theorem mixed_ : Tryz.prog.follows .mixedOrders = true := Tryz.lays156.mixed
theorem t_clone : ToldT Tryz.prog 255 oClone := (told_clone Tryz.stringslite_Clone).toT plain_ (by kernel_rfl)
noncomputable def told0 : Rk.Told := addT (fun _ => none) 255 oClone
theorem told0_ok : TSound Tryz.prog told0 := (TSound.none).add t_clone
end Go.Proofs.YtmabpnmnppfgaaaGreatDoor
namespace Go.Proofs.YtmabpnmnppfgaaaGreatDoor
open Go Go.Proofs Go.RowKit Go.BigFrame Go.Proofs.YtmabpnmnppfgaaaGreatDoor.Rk
set_option linter.unusedVariables false
set_option maxRecDepth 1000000 in
theorem alive_run : ansTrue (call Tryz.prog told0 (dcall Tryz.prog 100000) 100000 300 4 [] ⟨.leaf, 0, []⟩) = true := by kernel_rfl
theorem alive_below : ∀ w : World, Calls Tryz.prog 4 #[] w fun e w' => e = .returned (.bool true) ∧ Below w.heap.size w w' := fun w =>
  closed_args plain_ mixed_ told0_ok 100000 300 alive_run #[] .nil w
end Go.Proofs.YtmabpnmnppfgaaaGreatDoor
