/- One closed fact of the tie. -/
import Derived.Test.YtceafmknfkaedaaGreatDoorRows
import Derived.LaidByTextLater
namespace Go.Proofs.YtceafmknfkaedaaGreatDoor
open Go
theorem tieF : varsNamedLaterB Tryz.prog (varsId Tryz.prog) [("unicode/utf8.acceptRanges", Rows.laid_unicode_utf8_acceptRanges)] = true := by kernel_rfl
end Go.Proofs.YtceafmknfkaedaaGreatDoor
