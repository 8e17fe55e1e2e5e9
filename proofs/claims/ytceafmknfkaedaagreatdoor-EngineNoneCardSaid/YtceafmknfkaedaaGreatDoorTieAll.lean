/- THE TIE OF THE ROW, out of its closed facts, each proved in a text of its own (all in one are too much for one Lean). -/
import Derived.Test.YtceafmknfkaedaaGreatDoorTieA
import Derived.Test.YtceafmknfkaedaaGreatDoorTieB
import Derived.Test.YtceafmknfkaedaaGreatDoorTieC
import Derived.Test.YtceafmknfkaedaaGreatDoorTieD
import Derived.Test.YtceafmknfkaedaaGreatDoorTieE
import Derived.Test.YtceafmknfkaedaaGreatDoorTieF
import Derived.Test.YtceafmknfkaedaaGreatDoorTieG
import Derived.Test.YtceafmknfkaedaaGreatDoorTieH
import Derived.Test.YtceafmknfkaedaaGreatDoorTieI
import Derived.Test.YtceafmknfkaedaaGreatDoorTieP
import Derived.SevenTiedAt
namespace Go.Proofs.YtceafmknfkaedaaGreatDoor
open Go
theorem tieAll : Tryz.prog.laidByTextLater [("unicode/utf8.acceptRanges", Rows.laid_unicode_utf8_acceptRanges)] [.data] true :=
  Program.laidByTextLater_by_run 400 8 tieA tieB tieC tieD tieE tieF tieG tieH tieI
theorem rowTie : Rows.engineNoneRow.laidByTextAt .later Tryz.pinned [.pinned, .data] true :=
  OpenClaim.laidByTextAt_pinned rfl rfl tieAll rfl rfl rfl rfl (fun y hy _e => by
    simp only [Rows.engineNoneRow, List.zip_cons_cons, List.zip_nil_right, List.mem_cons, List.mem_nil_iff, or_false] at hy
    rcases hy with rfl | rfl
    · exact ⟨pinFits, by kernel_rfl⟩
    · cases _e) listFits
end Go.Proofs.YtceafmknfkaedaaGreatDoor
