/- Closed facts of the row, the small ones. -/
import Derived.Test.YtmabpnmnppfgaaaGreatDoorRows
import Derived.JoinedOf
import Derived.SevenTiedAt
import Derived.WalkKit
namespace Go.Proofs.YtmabpnmnppfgaaaGreatDoor
open Go
set_option linter.unusedVariables false
set_option maxRecDepth 100000
theorem fact1 : (Rows.adminParsesRow.wf (OpenSpec.ofChange Rows.adminParsesSpec)) = true := by kernel_rfl
theorem fact4 : (Tryz.f3.params.all (Tryz.prog.readableRec ·)) = true := by kernel_rfl
theorem fact5 : (namedTie Tryz.prog Rows.adminParsesRow.named Rows.adminParsesSpec.vars) = true := by kernel_rfl
theorem fact6 : ((Rows.adminParsesRow.stops == [])) = true := by kernel_rfl
theorem fact7 : ((Tryz.prog.stops == [])) = true := by kernel_rfl
theorem fact8 : ((Rows.adminParsesRow.knobs == [])) = true := by kernel_rfl
theorem fact9 : ((Tryz.prog.stopKnobs == [])) = true := by kernel_rfl
theorem fact14 : ((Rows.adminParsesRow.maps == (Tryz.f3.params.toList ++ Rows.adminParsesSpec.plain.varTypes Tryz.prog).any (Tryz.prog.mapsRec ·))) = true := by kernel_rfl
theorem fact15 : ((Rows.adminParsesRow.ifaces == (Tryz.f3.params.toList ++ Rows.adminParsesSpec.plain.varTypes Tryz.prog).any (Tryz.prog.ifacesRec ·))) = true := by kernel_rfl
theorem fact16 : ((Rows.adminParsesRow.mapsOut == Tryz.prog.mapsAmong Tryz.f3.resultTypes.toList)) = true := by kernel_rfl
theorem fact17 : ((Rows.adminParsesRow.loops == (Tryz.f3.params.toList ++ Rows.adminParsesSpec.plain.varTypes Tryz.prog).any (Tryz.prog.loopsFrom ·))) = true := by kernel_rfl
theorem fact18 : ((Rows.adminParsesRow.wideKeys == (Tryz.f3.params.toList ++ Rows.adminParsesSpec.plain.varTypes Tryz.prog ++ Tryz.f3.resultTypes.toList).any (Tryz.prog.wideKeysFrom ·))) = true := by kernel_rfl
theorem fact19 : (Rows.adminParsesSpec.vars.all (Tryz.prog.varReadable ·)) = true := by kernel_rfl
theorem fact20 : (Tryz.f3.resultTypes.all (fun t => Tryz.prog.readableRec t && decide (t < Tryz.prog.types.size))) = true := by kernel_rfl
theorem fact21 : ((Rows.adminParsesRow.ifacesOut == Tryz.f3.resultTypes.toList.any (Tryz.prog.ifacesRec ·))) = true := by kernel_rfl
theorem fact22 : ((Rows.adminParsesRow.loopsOut == Tryz.f3.resultTypes.toList.any (Tryz.prog.loopsFrom ·))) = true := by kernel_rfl
theorem fact23 : ((Rows.adminParsesRow.plainKeys == Tryz.prog.plainKeys)) = true := by kernel_rfl
theorem fact24 : (Rows.adminParsesRow.shortTexts.isNone) = true := by kernel_rfl
theorem fact27 : ((Rows.adminParsesRow.lifted == Tryz.prog.liftsFinal)) = true := by kernel_rfl
theorem fact28 : ((Tryz.prog.make == some Rows.adminParsesRow.make)) = true := by kernel_rfl
theorem fact29 : ((Rows.adminParsesRow.kinds == (if Rows.adminParsesRow.domain.isEmpty then [] else Tryz.f3.params.toList.map fun t => match Tryz.prog.underlying t with | some (.int k) => some k | _ => none))) = true := by kernel_rfl
theorem fact30 : ((Rows.adminParsesRow.pinned == Rows.adminParsesRow.pinnedBy)) = true := by kernel_rfl
theorem fact31 : ((Rows.adminParsesRow.veiled == (Tryz.f3.params.toList ++ Rows.adminParsesSpec.plain.varTypes Tryz.prog ++ Tryz.f3.resultTypes.toList).any (Tryz.prog.veiledRec ·))) = true := by kernel_rfl
theorem fact32 : (Rows.adminParsesRow.veiledFits Tryz.prog Tryz.f3.params.toList (Tryz.f3.params.toList ++ Rows.adminParsesSpec.plain.varTypes Tryz.prog ++ Tryz.f3.resultTypes.toList)) = true := by kernel_rfl
theorem wfText : Rows.adminParsesRow.wfByText (OpenSpec.ofChange Rows.adminParsesSpec) = true := by kernel_rfl
theorem mainWord : Tryz.prog.mainIs = some (true, "c8d18b93303d5ee51f061115c608aa08d013c8ddebcc47e3a3c01374d0b9fe08".toList) := by kernel_rfl
theorem standIns : ([9, 24, 3].all fun u => !Tryz.prog.wantsStandIn u) = true := by kernel_rfl
theorem looksAll : true = Tryz.prog.looks [] := by kernel_rfl
end Go.Proofs.YtmabpnmnppfgaaaGreatDoor
