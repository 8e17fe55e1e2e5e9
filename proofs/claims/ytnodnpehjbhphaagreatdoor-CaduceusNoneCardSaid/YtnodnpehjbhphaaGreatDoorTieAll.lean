/- THE TIE OF THE ROW, out of its closed facts, each proved in a text of its own (all in one are too much for one Lean). -/
import Derived.Test.YtnodnpehjbhphaaGreatDoorTieA
import Derived.Test.YtnodnpehjbhphaaGreatDoorTieB
import Derived.Test.YtnodnpehjbhphaaGreatDoorTieC
import Derived.Test.YtnodnpehjbhphaaGreatDoorTieD
import Derived.Test.YtnodnpehjbhphaaGreatDoorTieE
import Derived.Test.YtnodnpehjbhphaaGreatDoorTieF
import Derived.Test.YtnodnpehjbhphaaGreatDoorTieG
import Derived.Test.YtnodnpehjbhphaaGreatDoorTieH
import Derived.Test.YtnodnpehjbhphaaGreatDoorTieI
import Derived.Test.YtnodnpehjbhphaaGreatDoorTieP
import Derived.SevenTiedAt
namespace Go.Proofs.YtnodnpehjbhphaaGreatDoor
open Go
theorem tieAll : Tryz.prog.laidByTextLater [("unicode/utf8.acceptRanges", Rows.laid_unicode_utf8_acceptRanges)] [.data] true :=
  Program.laidByTextLater_by_run 400 8 tieA tieB tieC tieD tieE tieF tieG tieH tieI
theorem rowTie : Rows.caduceusNoneRow.laidByTextAt .later Tryz.pinned [.pinned, .data] true :=
  OpenClaim.laidByTextAt_pinned rfl rfl tieAll rfl rfl rfl rfl (fun y hy _e => by
    simp only [Rows.caduceusNoneRow, List.zip_cons_cons, List.zip_nil_right, List.mem_cons, List.mem_nil_iff, or_false] at hy
    rcases hy with rfl | rfl
    · exact ⟨pinFits, by kernel_rfl⟩
    · cases _e) listFits
end Go.Proofs.YtnodnpehjbhphaaGreatDoor
