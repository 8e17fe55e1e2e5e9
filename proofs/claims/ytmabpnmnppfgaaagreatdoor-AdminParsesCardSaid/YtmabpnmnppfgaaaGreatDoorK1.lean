/- Part K1 of the proof: the statement that is proved stands in the text that ends with its name. No conditions beyond the card's. -/
import Derived.Test.YtmabpnmnppfgaaaGreatDoorRk5
import Derived.Test.YtmabpnmnppfgaaaGreatDoorA3
import Derived.RegionTactic
import Derived.ChangeAlike
namespace Go.Proofs.YtmabpnmnppfgaaaGreatDoor
set_option linter.unusedVariables false
open Go Go.Proofs Go.RowKit Go.Proofs.YtmabpnmnppfgaaaGreatDoor.Rk
theorem plainB_ : plainFuncs Tryz.prog = true := by kernel_rfl
theorem mixedB_ : Tryz.prog.follows .mixedOrders = true := by kernel_rfl
noncomputable abbrev ca (f : FuncId) (args : List AV) (s : St) := call Tryz.prog (fun _ => none) (dcall Tryz.prog 100000) 100000 300 f args s
def b0 : St := ⟨Tr.leaf.set 0 (.cells (2 * 45) (List.replicate 34 .nils)), 2, []⟩
noncomputable def b1 : St := stOf (ca 8 [.ptr 0 0, .nils] b0)
noncomputable def b2 : St := stOf (ca 8 [.ptr 0 0, .nils] b1)
noncomputable def c0 : St := b0.new (.cells (2 * 3 + 1) [.any 1])
noncomputable def c1 : St := stOf (ca 8 [.ptr 0 0, .slice b0.n 0 1 1 1] c0)
noncomputable def c1n : St := c1.new (.cells (2 * 3 + 1) [.any 1])
noncomputable def c2 : St := stOf (ca 8 [.ptr 0 0, .slice c1.n 0 1 1 1] c1n)
section
set_option maxRecDepth 1000000
theorem b1_run : isUnit (ca 8 [.ptr 0 0, .nils] b0) = true := by kernel_rfl
theorem b2_run : isUnit (ca 8 [.ptr 0 0, .nils] b1) = true := by kernel_rfl
theorem b3_run : ansTrue (ca 15 [.ptr 0 0] b2) = true := by kernel_rfl
theorem c1_run : isUnit (ca 8 [.ptr 0 0, .slice b0.n 0 1 1 1] c0) = true := by kernel_rfl
theorem c2_run : isUnit (ca 8 [.ptr 0 0, .slice c1.n 0 1 1 1] c1n) = true := by kernel_rfl
theorem c3_run : ansTrue (ca 15 [.ptr 0 0] c2) = true := by kernel_rfl
end
end Go.Proofs.YtmabpnmnppfgaaaGreatDoor
