/- Closed facts of the row, the small ones. -/
import Derived.Test.YtjikgmbhnknojaaGreatDoorRows
import Derived.JoinedOf
import Derived.SevenTiedAt
import Derived.WalkKit
namespace Go.Proofs.YtjikgmbhnknojaaGreatDoor
open Go
set_option linter.unusedVariables false
set_option maxRecDepth 100000
theorem fact1 : (Rows.adminBackRow.wf (OpenSpec.ofChange Rows.adminBackSpec)) = true := by kernel_rfl
theorem fact4 : (Tryz.f3.params.all (Tryz.prog.readableRec ·)) = true := by kernel_rfl
theorem fact5 : (namedTie Tryz.prog Rows.adminBackRow.named Rows.adminBackSpec.vars) = true := by kernel_rfl
theorem fact6 : ((Rows.adminBackRow.stops == [])) = true := by kernel_rfl
theorem fact7 : ((Tryz.prog.stops == [])) = true := by kernel_rfl
theorem fact8 : ((Rows.adminBackRow.knobs == [])) = true := by kernel_rfl
theorem fact9 : ((Tryz.prog.stopKnobs == [])) = true := by kernel_rfl
theorem fact14 : ((Rows.adminBackRow.maps == (Tryz.f3.params.toList ++ Rows.adminBackSpec.plain.varTypes Tryz.prog).any (Tryz.prog.mapsRec ·))) = true := by kernel_rfl
theorem fact15 : ((Rows.adminBackRow.ifaces == (Tryz.f3.params.toList ++ Rows.adminBackSpec.plain.varTypes Tryz.prog).any (Tryz.prog.ifacesRec ·))) = true := by kernel_rfl
theorem fact16 : ((Rows.adminBackRow.mapsOut == Tryz.prog.mapsAmong Tryz.f3.resultTypes.toList)) = true := by kernel_rfl
theorem fact17 : ((Rows.adminBackRow.loops == (Tryz.f3.params.toList ++ Rows.adminBackSpec.plain.varTypes Tryz.prog).any (Tryz.prog.loopsFrom ·))) = true := by kernel_rfl
theorem fact18 : ((Rows.adminBackRow.wideKeys == (Tryz.f3.params.toList ++ Rows.adminBackSpec.plain.varTypes Tryz.prog ++ Tryz.f3.resultTypes.toList).any (Tryz.prog.wideKeysFrom ·))) = true := by kernel_rfl
theorem fact19 : (Rows.adminBackSpec.vars.all (Tryz.prog.varReadable ·)) = true := by kernel_rfl
theorem fact20 : (Tryz.f3.resultTypes.all (fun t => Tryz.prog.readableRec t && decide (t < Tryz.prog.types.size))) = true := by kernel_rfl
theorem fact21 : ((Rows.adminBackRow.ifacesOut == Tryz.f3.resultTypes.toList.any (Tryz.prog.ifacesRec ·))) = true := by kernel_rfl
theorem fact22 : ((Rows.adminBackRow.loopsOut == Tryz.f3.resultTypes.toList.any (Tryz.prog.loopsFrom ·))) = true := by kernel_rfl
theorem fact23 : ((Rows.adminBackRow.plainKeys == Tryz.prog.plainKeys)) = true := by kernel_rfl
theorem fact24 : (Rows.adminBackRow.shortTexts.isNone) = true := by kernel_rfl
theorem fact27 : ((Rows.adminBackRow.lifted == Tryz.prog.liftsFinal)) = true := by kernel_rfl
theorem fact28 : ((Tryz.prog.make == some Rows.adminBackRow.make)) = true := by kernel_rfl
theorem fact29 : ((Rows.adminBackRow.kinds == (if Rows.adminBackRow.domain.isEmpty then [] else Tryz.f3.params.toList.map fun t => match Tryz.prog.underlying t with | some (.int k) => some k | _ => none))) = true := by kernel_rfl
theorem fact30 : ((Rows.adminBackRow.pinned == Rows.adminBackRow.pinnedBy)) = true := by kernel_rfl
theorem fact31 : ((Rows.adminBackRow.veiled == (Tryz.f3.params.toList ++ Rows.adminBackSpec.plain.varTypes Tryz.prog ++ Tryz.f3.resultTypes.toList).any (Tryz.prog.veiledRec ·))) = true := by kernel_rfl
theorem fact32 : (Rows.adminBackRow.veiledFits Tryz.prog Tryz.f3.params.toList (Tryz.f3.params.toList ++ Rows.adminBackSpec.plain.varTypes Tryz.prog ++ Tryz.f3.resultTypes.toList)) = true := by kernel_rfl
theorem wfText : Rows.adminBackRow.wfByText (OpenSpec.ofChange Rows.adminBackSpec) = true := by kernel_rfl
theorem mainWord : Tryz.prog.mainIs = some (true, "17b367ca6d3d4eb6b2e1469639dbde4c9b497e29bbfd685c079b3a6ad755fa2c".toList) := by kernel_rfl
theorem standIns : ([24, 9].all fun u => !Tryz.prog.wantsStandIn u) = true := by kernel_rfl
theorem looksAll : true = Tryz.prog.looks [] := by kernel_rfl
end Go.Proofs.YtjikgmbhnknojaaGreatDoor
