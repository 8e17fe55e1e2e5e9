/- Closed facts of the row, the small ones. -/
import Derived.Test.YtnodnpehjbhphaaGreatDoorRows
import Derived.JoinedOf
import Derived.SevenTiedAt
import Derived.WalkKit
namespace Go.Proofs.YtnodnpehjbhphaaGreatDoor
open Go
set_option linter.unusedVariables false
set_option maxRecDepth 100000
theorem fact1 : (Rows.caduceusNoneRow.wf (OpenSpec.ofChange Rows.caduceusNoneSpec)) = true := by kernel_rfl
theorem fact4 : (Tryz.f3.params.all (Tryz.prog.readableRec ·)) = true := by kernel_rfl
theorem fact5 : (namedTie Tryz.prog Rows.caduceusNoneRow.named Rows.caduceusNoneSpec.vars) = true := by kernel_rfl
theorem fact6 : ((Rows.caduceusNoneRow.stops == [])) = true := by kernel_rfl
theorem fact7 : ((Tryz.prog.stops == [])) = true := by kernel_rfl
theorem fact8 : ((Rows.caduceusNoneRow.knobs == [])) = true := by kernel_rfl
theorem fact9 : ((Tryz.prog.stopKnobs == [])) = true := by kernel_rfl
theorem fact14 : ((Rows.caduceusNoneRow.maps == (Tryz.f3.params.toList ++ Rows.caduceusNoneSpec.plain.varTypes Tryz.prog).any (Tryz.prog.mapsRec ·))) = true := by kernel_rfl
theorem fact15 : ((Rows.caduceusNoneRow.ifaces == (Tryz.f3.params.toList ++ Rows.caduceusNoneSpec.plain.varTypes Tryz.prog).any (Tryz.prog.ifacesRec ·))) = true := by kernel_rfl
theorem fact16 : ((Rows.caduceusNoneRow.mapsOut == Tryz.prog.mapsAmong Tryz.f3.resultTypes.toList)) = true := by kernel_rfl
theorem fact17 : ((Rows.caduceusNoneRow.loops == (Tryz.f3.params.toList ++ Rows.caduceusNoneSpec.plain.varTypes Tryz.prog).any (Tryz.prog.loopsFrom ·))) = true := by kernel_rfl
theorem fact18 : ((Rows.caduceusNoneRow.wideKeys == (Tryz.f3.params.toList ++ Rows.caduceusNoneSpec.plain.varTypes Tryz.prog ++ Tryz.f3.resultTypes.toList).any (Tryz.prog.wideKeysFrom ·))) = true := by kernel_rfl
theorem fact19 : (Rows.caduceusNoneSpec.vars.all (Tryz.prog.varReadable ·)) = true := by kernel_rfl
theorem fact20 : (Tryz.f3.resultTypes.all (fun t => Tryz.prog.readableRec t && decide (t < Tryz.prog.types.size))) = true := by kernel_rfl
theorem fact21 : ((Rows.caduceusNoneRow.ifacesOut == Tryz.f3.resultTypes.toList.any (Tryz.prog.ifacesRec ·))) = true := by kernel_rfl
theorem fact22 : ((Rows.caduceusNoneRow.loopsOut == Tryz.f3.resultTypes.toList.any (Tryz.prog.loopsFrom ·))) = true := by kernel_rfl
theorem fact23 : ((Rows.caduceusNoneRow.plainKeys == Tryz.prog.plainKeys)) = true := by kernel_rfl
theorem fact24 : (Rows.caduceusNoneRow.shortTexts.isNone) = true := by kernel_rfl
theorem fact27 : ((Rows.caduceusNoneRow.lifted == Tryz.prog.liftsFinal)) = true := by kernel_rfl
theorem fact28 : ((Tryz.prog.make == some Rows.caduceusNoneRow.make)) = true := by kernel_rfl
theorem fact29 : ((Rows.caduceusNoneRow.kinds == (if Rows.caduceusNoneRow.domain.isEmpty then [] else Tryz.f3.params.toList.map fun t => match Tryz.prog.underlying t with | some (.int k) => some k | _ => none))) = true := by kernel_rfl
theorem fact30 : ((Rows.caduceusNoneRow.pinned == Rows.caduceusNoneRow.pinnedBy)) = true := by kernel_rfl
theorem fact31 : ((Rows.caduceusNoneRow.veiled == (Tryz.f3.params.toList ++ Rows.caduceusNoneSpec.plain.varTypes Tryz.prog ++ Tryz.f3.resultTypes.toList).any (Tryz.prog.veiledRec ·))) = true := by kernel_rfl
theorem fact32 : (Rows.caduceusNoneRow.veiledFits Tryz.prog Tryz.f3.params.toList (Tryz.f3.params.toList ++ Rows.caduceusNoneSpec.plain.varTypes Tryz.prog ++ Tryz.f3.resultTypes.toList)) = true := by kernel_rfl
theorem wfText : Rows.caduceusNoneRow.wfByText (OpenSpec.ofChange Rows.caduceusNoneSpec) = true := by kernel_rfl
theorem mainWord : Tryz.prog.mainIs = some (true, "1fd7c04c540af28cf8ab998d7ef1a8cb3b2e292c1cc6b104ce24f48cbb3555e5".toList) := by kernel_rfl
theorem standIns : ([24].all fun u => !Tryz.prog.wantsStandIn u) = true := by kernel_rfl
theorem looksAll : true = Tryz.prog.looks [] := by kernel_rfl
end Go.Proofs.YtnodnpehjbhphaaGreatDoor
