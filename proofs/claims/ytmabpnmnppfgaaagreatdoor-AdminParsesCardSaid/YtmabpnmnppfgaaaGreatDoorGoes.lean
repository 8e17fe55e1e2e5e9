/- The call starts nothing beside itself. -/
import Derived.Test.YtmabpnmnppfgaaaGreatDoorReach
import Derived.Test.YtmabpnmnppfgaaaGreatDoorFactsC
namespace Go.Proofs.YtmabpnmnppfgaaaGreatDoor
open Go
set_option linter.unusedVariables false
set_option maxRecDepth 100000
theorem goes0 : ids0.any (fun g => (Tryz.prog.funcs[g]?).any Func.goes) = false := by kernel_rfl
theorem goes1 : ids1.any (fun g => (Tryz.prog.funcs[g]?).any Func.goes) = false := by kernel_rfl
theorem goes2 : ids2.any (fun g => (Tryz.prog.funcs[g]?).any Func.goes) = false := by kernel_rfl
theorem goes3 : ids3.any (fun g => (Tryz.prog.funcs[g]?).any Func.goes) = false := by kernel_rfl
theorem goesNo : Tryz.prog.funcs.any Func.goes = false := by kernel_rfl
theorem goes_gen (P : Program) (c : OpenClaim) (f : FuncId) (L : List FuncId) (hs : c.start = .entering) (hf : P.funcNamed c.func = some f) (hc : P.closure f = L) (ha : L.any (fun g => (P.funcs[g]?).any Func.goes) = false) (hn : P.funcs.any Func.goes = false) : false = c.goesBy P := by
  unfold OpenClaim.goesBy Program.goesAt Program.goesFrom
  rw [hs, hf]
  simp [Program.goes, hc, ha, hn]
theorem goesIds : ids.any (fun g => (Tryz.prog.funcs[g]?).any Func.goes) = false := by
  unfold ids
  simp only [List.any_append, goes0, goes1, goes2, goes3, Bool.or_false]
theorem goesNot : false = Rows.adminParsesRow.goesBy Tryz.prog := goes_gen Tryz.prog Rows.adminParsesRow 3 ids rfl funcIs closure_is goesIds goesNo
end Go.Proofs.YtmabpnmnppfgaaaGreatDoor
