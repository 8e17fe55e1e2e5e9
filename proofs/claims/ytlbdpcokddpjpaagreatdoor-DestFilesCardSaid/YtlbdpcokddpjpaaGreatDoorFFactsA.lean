/- Closed facts of the row, the small ones. -/
import Derived.Test.YtlbdpcokddpjpaaGreatDoorRows
import Derived.JoinedOf
import Derived.SevenTiedAt
import Derived.WalkKit
namespace Go.Proofs.YtlbdpcokddpjpaaGreatDoor
open Go
set_option linter.unusedVariables false
set_option maxRecDepth 100000
theorem fact1 : (Rows.destFilesRow.wf (OpenSpec.ofChange Rows.destFilesSpec)) = true := by kernel_rfl
theorem fact4 : (Tryz.f3.params.all (Tryz.prog.readableRec ·)) = true := by kernel_rfl
theorem fact5 : (namedTie Tryz.prog Rows.destFilesRow.named Rows.destFilesSpec.vars) = true := by kernel_rfl
theorem fact6 : ((Rows.destFilesRow.stops == [])) = true := by kernel_rfl
theorem fact7 : ((Tryz.prog.stops == [])) = true := by kernel_rfl
theorem fact8 : ((Rows.destFilesRow.knobs == [])) = true := by kernel_rfl
theorem fact9 : ((Tryz.prog.stopKnobs == [])) = true := by kernel_rfl
theorem fact14 : ((Rows.destFilesRow.maps == (Tryz.f3.params.toList ++ Rows.destFilesSpec.plain.varTypes Tryz.prog).any (Tryz.prog.mapsRec ·))) = true := by kernel_rfl
theorem fact15 : ((Rows.destFilesRow.ifaces == (Tryz.f3.params.toList ++ Rows.destFilesSpec.plain.varTypes Tryz.prog).any (Tryz.prog.ifacesRec ·))) = true := by kernel_rfl
theorem fact16 : ((Rows.destFilesRow.mapsOut == Tryz.prog.mapsAmong Tryz.f3.resultTypes.toList)) = true := by kernel_rfl
theorem fact17 : ((Rows.destFilesRow.loops == (Tryz.f3.params.toList ++ Rows.destFilesSpec.plain.varTypes Tryz.prog).any (Tryz.prog.loopsFrom ·))) = true := by kernel_rfl
theorem fact18 : ((Rows.destFilesRow.wideKeys == (Tryz.f3.params.toList ++ Rows.destFilesSpec.plain.varTypes Tryz.prog ++ Tryz.f3.resultTypes.toList).any (Tryz.prog.wideKeysFrom ·))) = true := by kernel_rfl
theorem fact19 : (Rows.destFilesSpec.vars.all (Tryz.prog.varReadable ·)) = true := by kernel_rfl
theorem fact20 : (Tryz.f3.resultTypes.all (fun t => Tryz.prog.readableRec t && decide (t < Tryz.prog.types.size))) = true := by kernel_rfl
theorem fact21 : ((Rows.destFilesRow.ifacesOut == Tryz.f3.resultTypes.toList.any (Tryz.prog.ifacesRec ·))) = true := by kernel_rfl
theorem fact22 : ((Rows.destFilesRow.loopsOut == Tryz.f3.resultTypes.toList.any (Tryz.prog.loopsFrom ·))) = true := by kernel_rfl
theorem fact23 : ((Rows.destFilesRow.plainKeys == Tryz.prog.plainKeys)) = true := by kernel_rfl
theorem fact24 : (Rows.destFilesRow.shortTexts.isNone) = true := by kernel_rfl
theorem fact27 : ((Rows.destFilesRow.lifted == Tryz.prog.liftsFinal)) = true := by kernel_rfl
theorem fact28 : ((Tryz.prog.make == some Rows.destFilesRow.make)) = true := by kernel_rfl
theorem fact29 : ((Rows.destFilesRow.kinds == (if Rows.destFilesRow.domain.isEmpty then [] else Tryz.f3.params.toList.map fun t => match Tryz.prog.underlying t with | some (.int k) => some k | _ => none))) = true := by kernel_rfl
theorem fact30 : ((Rows.destFilesRow.pinned == Rows.destFilesRow.pinnedBy)) = true := by kernel_rfl
theorem fact31 : ((Rows.destFilesRow.veiled == (Tryz.f3.params.toList ++ Rows.destFilesSpec.plain.varTypes Tryz.prog ++ Tryz.f3.resultTypes.toList).any (Tryz.prog.veiledRec ·))) = true := by kernel_rfl
theorem fact32 : (Rows.destFilesRow.veiledFits Tryz.prog Tryz.f3.params.toList (Tryz.f3.params.toList ++ Rows.destFilesSpec.plain.varTypes Tryz.prog ++ Tryz.f3.resultTypes.toList)) = true := by kernel_rfl
theorem wfText : Rows.destFilesRow.wfByText (OpenSpec.ofChange Rows.destFilesSpec) = true := by kernel_rfl
theorem mainWord : Tryz.prog.mainIs = some (true, "0ef277316775f5f4f017cbf79aa902144e6a814be0130a6eab7bba289149619f".toList) := by kernel_rfl
theorem standIns : ([9, 22, 3].all fun u => !Tryz.prog.wantsStandIn u) = true := by kernel_rfl
theorem looksAll : true = Tryz.prog.looks [] := by kernel_rfl
end Go.Proofs.YtlbdpcokddpjpaaGreatDoor
