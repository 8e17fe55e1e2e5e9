/- One closed fact of the tie. -/
import Derived.Test.YtnodnpehjbhphaaGreatDoorRows
import Derived.LaidByTextLater
namespace Go.Proofs.YtnodnpehjbhphaaGreatDoor
open Go
theorem tieD : ([("unicode/utf8.acceptRanges", Rows.laid_unicode_utf8_acceptRanges)] : List (String × DataW Unit)).map (fun x => Tryz.prog.kindOfLater x.1) = [LaidKind.data].map some := by kernel_rfl
end Go.Proofs.YtnodnpehjbhphaaGreatDoor
