/- One closed fact of the tie. -/
import Derived.Test.YtceafmknfkaedaaGreatDoorRows
import Derived.LaidByTextLater
namespace Go.Proofs.YtceafmknfkaedaaGreatDoor
open Go
theorem tieD : ([("unicode/utf8.acceptRanges", Rows.laid_unicode_utf8_acceptRanges)] : List (String × DataW Unit)).map (fun x => Tryz.prog.kindOfLater x.1) = [LaidKind.data].map some := by kernel_rfl
end Go.Proofs.YtceafmknfkaedaaGreatDoor
