/- Closed facts of the row, the small ones. -/
import Derived.Test.YtlbdpcokddpjpaaGreatDoorRows
import Derived.JoinedOf
import Derived.SevenTiedAt
import Derived.WalkKit
namespace Go.Proofs.YtlbdpcokddpjpaaGreatDoor
open Go
set_option linter.unusedVariables false
set_option maxRecDepth 100000
theorem fact1 : (Rows.destTornRow.wf (OpenSpec.ofChange Rows.destTornSpec)) = true := by kernel_rfl
theorem fact4 : (Tryz.f4.params.all (Tryz.prog.readableRec ·)) = true := by kernel_rfl
theorem fact5 : (namedTie Tryz.prog Rows.destTornRow.named Rows.destTornSpec.vars) = true := by kernel_rfl
theorem fact6 : ((Rows.destTornRow.stops == [])) = true := by kernel_rfl
theorem fact7 : ((Tryz.prog.stops == [])) = true := by kernel_rfl
theorem fact8 : ((Rows.destTornRow.knobs == [])) = true := by kernel_rfl
theorem fact9 : ((Tryz.prog.stopKnobs == [])) = true := by kernel_rfl
theorem fact14 : ((Rows.destTornRow.maps == (Tryz.f4.params.toList ++ Rows.destTornSpec.plain.varTypes Tryz.prog).any (Tryz.prog.mapsRec ·))) = true := by kernel_rfl
theorem fact15 : ((Rows.destTornRow.ifaces == (Tryz.f4.params.toList ++ Rows.destTornSpec.plain.varTypes Tryz.prog).any (Tryz.prog.ifacesRec ·))) = true := by kernel_rfl
theorem fact16 : ((Rows.destTornRow.mapsOut == Tryz.prog.mapsAmong Tryz.f4.resultTypes.toList)) = true := by kernel_rfl
theorem fact17 : ((Rows.destTornRow.loops == (Tryz.f4.params.toList ++ Rows.destTornSpec.plain.varTypes Tryz.prog).any (Tryz.prog.loopsFrom ·))) = true := by kernel_rfl
theorem fact18 : ((Rows.destTornRow.wideKeys == (Tryz.f4.params.toList ++ Rows.destTornSpec.plain.varTypes Tryz.prog ++ Tryz.f4.resultTypes.toList).any (Tryz.prog.wideKeysFrom ·))) = true := by kernel_rfl
theorem fact19 : (Rows.destTornSpec.vars.all (Tryz.prog.varReadable ·)) = true := by kernel_rfl
theorem fact20 : (Tryz.f4.resultTypes.all (fun t => Tryz.prog.readableRec t && decide (t < Tryz.prog.types.size))) = true := by kernel_rfl
theorem fact21 : ((Rows.destTornRow.ifacesOut == Tryz.f4.resultTypes.toList.any (Tryz.prog.ifacesRec ·))) = true := by kernel_rfl
theorem fact22 : ((Rows.destTornRow.loopsOut == Tryz.f4.resultTypes.toList.any (Tryz.prog.loopsFrom ·))) = true := by kernel_rfl
theorem fact23 : ((Rows.destTornRow.plainKeys == Tryz.prog.plainKeys)) = true := by kernel_rfl
theorem fact24 : (Rows.destTornRow.shortTexts.isNone) = true := by kernel_rfl
theorem fact27 : ((Rows.destTornRow.lifted == Tryz.prog.liftsFinal)) = true := by kernel_rfl
theorem fact28 : ((Tryz.prog.make == some Rows.destTornRow.make)) = true := by kernel_rfl
theorem fact29 : ((Rows.destTornRow.kinds == (if Rows.destTornRow.domain.isEmpty then [] else Tryz.f4.params.toList.map fun t => match Tryz.prog.underlying t with | some (.int k) => some k | _ => none))) = true := by kernel_rfl
theorem fact30 : ((Rows.destTornRow.pinned == Rows.destTornRow.pinnedBy)) = true := by kernel_rfl
theorem fact31 : ((Rows.destTornRow.veiled == (Tryz.f4.params.toList ++ Rows.destTornSpec.plain.varTypes Tryz.prog ++ Tryz.f4.resultTypes.toList).any (Tryz.prog.veiledRec ·))) = true := by kernel_rfl
theorem fact32 : (Rows.destTornRow.veiledFits Tryz.prog Tryz.f4.params.toList (Tryz.f4.params.toList ++ Rows.destTornSpec.plain.varTypes Tryz.prog ++ Tryz.f4.resultTypes.toList)) = true := by kernel_rfl
theorem wfText : Rows.destTornRow.wfByText (OpenSpec.ofChange Rows.destTornSpec) = true := by kernel_rfl
theorem mainWord : Tryz.prog.mainIs = some (true, "0ef277316775f5f4f017cbf79aa902144e6a814be0130a6eab7bba289149619f".toList) := by kernel_rfl
theorem standIns : ([9, 3].all fun u => !Tryz.prog.wantsStandIn u) = true := by kernel_rfl
theorem looksAll : true = Tryz.prog.looks [] := by kernel_rfl
end Go.Proofs.YtlbdpcokddpjpaaGreatDoor
