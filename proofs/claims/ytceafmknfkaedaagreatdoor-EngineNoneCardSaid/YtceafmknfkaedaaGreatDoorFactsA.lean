/- Closed facts of the row, the small ones. -/
import Derived.Test.YtceafmknfkaedaaGreatDoorRows
import Derived.JoinedOf
import Derived.SevenTiedAt
import Derived.WalkKit
namespace Go.Proofs.YtceafmknfkaedaaGreatDoor
open Go
set_option linter.unusedVariables false
set_option maxRecDepth 100000
theorem fact1 : (Rows.engineNoneRow.wf (OpenSpec.ofChange Rows.engineNoneSpec)) = true := by kernel_rfl
theorem fact4 : (Tryz.f3.params.all (Tryz.prog.readableRec ·)) = true := by kernel_rfl
theorem fact5 : (namedTie Tryz.prog Rows.engineNoneRow.named Rows.engineNoneSpec.vars) = true := by kernel_rfl
theorem fact6 : ((Rows.engineNoneRow.stops == [])) = true := by kernel_rfl
theorem fact7 : ((Tryz.prog.stops == [])) = true := by kernel_rfl
theorem fact8 : ((Rows.engineNoneRow.knobs == [])) = true := by kernel_rfl
theorem fact9 : ((Tryz.prog.stopKnobs == [])) = true := by kernel_rfl
theorem fact14 : ((Rows.engineNoneRow.maps == (Tryz.f3.params.toList ++ Rows.engineNoneSpec.plain.varTypes Tryz.prog).any (Tryz.prog.mapsRec ·))) = true := by kernel_rfl
theorem fact15 : ((Rows.engineNoneRow.ifaces == (Tryz.f3.params.toList ++ Rows.engineNoneSpec.plain.varTypes Tryz.prog).any (Tryz.prog.ifacesRec ·))) = true := by kernel_rfl
theorem fact16 : ((Rows.engineNoneRow.mapsOut == Tryz.prog.mapsAmong Tryz.f3.resultTypes.toList)) = true := by kernel_rfl
theorem fact17 : ((Rows.engineNoneRow.loops == (Tryz.f3.params.toList ++ Rows.engineNoneSpec.plain.varTypes Tryz.prog).any (Tryz.prog.loopsFrom ·))) = true := by kernel_rfl
theorem fact18 : ((Rows.engineNoneRow.wideKeys == (Tryz.f3.params.toList ++ Rows.engineNoneSpec.plain.varTypes Tryz.prog ++ Tryz.f3.resultTypes.toList).any (Tryz.prog.wideKeysFrom ·))) = true := by kernel_rfl
theorem fact19 : (Rows.engineNoneSpec.vars.all (Tryz.prog.varReadable ·)) = true := by kernel_rfl
theorem fact20 : (Tryz.f3.resultTypes.all (fun t => Tryz.prog.readableRec t && decide (t < Tryz.prog.types.size))) = true := by kernel_rfl
theorem fact21 : ((Rows.engineNoneRow.ifacesOut == Tryz.f3.resultTypes.toList.any (Tryz.prog.ifacesRec ·))) = true := by kernel_rfl
theorem fact22 : ((Rows.engineNoneRow.loopsOut == Tryz.f3.resultTypes.toList.any (Tryz.prog.loopsFrom ·))) = true := by kernel_rfl
theorem fact23 : ((Rows.engineNoneRow.plainKeys == Tryz.prog.plainKeys)) = true := by kernel_rfl
theorem fact24 : (Rows.engineNoneRow.shortTexts.isNone) = true := by kernel_rfl
theorem fact27 : ((Rows.engineNoneRow.lifted == Tryz.prog.liftsFinal)) = true := by kernel_rfl
theorem fact28 : ((Tryz.prog.make == some Rows.engineNoneRow.make)) = true := by kernel_rfl
theorem fact29 : ((Rows.engineNoneRow.kinds == (if Rows.engineNoneRow.domain.isEmpty then [] else Tryz.f3.params.toList.map fun t => match Tryz.prog.underlying t with | some (.int k) => some k | _ => none))) = true := by kernel_rfl
theorem fact30 : ((Rows.engineNoneRow.pinned == Rows.engineNoneRow.pinnedBy)) = true := by kernel_rfl
theorem fact31 : ((Rows.engineNoneRow.veiled == (Tryz.f3.params.toList ++ Rows.engineNoneSpec.plain.varTypes Tryz.prog ++ Tryz.f3.resultTypes.toList).any (Tryz.prog.veiledRec ·))) = true := by kernel_rfl
theorem fact32 : (Rows.engineNoneRow.veiledFits Tryz.prog Tryz.f3.params.toList (Tryz.f3.params.toList ++ Rows.engineNoneSpec.plain.varTypes Tryz.prog ++ Tryz.f3.resultTypes.toList)) = true := by kernel_rfl
theorem wfText : Rows.engineNoneRow.wfByText (OpenSpec.ofChange Rows.engineNoneSpec) = true := by kernel_rfl
theorem mainWord : Tryz.prog.mainIs = some (true, "52fcf6e1c85a5a1c4bf541c55deb9bc0ddcb2728fa47cfec26fd0b7a2f5c7253".toList) := by kernel_rfl
theorem standIns : ([9, 3].all fun u => !Tryz.prog.wantsStandIn u) = true := by kernel_rfl
theorem looksAll : true = Tryz.prog.looks [] := by kernel_rfl
end Go.Proofs.YtceafmknfkaedaaGreatDoor
