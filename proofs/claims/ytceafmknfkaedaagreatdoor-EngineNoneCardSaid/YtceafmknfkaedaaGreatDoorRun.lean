/- The law's run, reckoned once for every text and number: at every input, on every tape, the call returns true; of what was there nothing turns. -/
import Derived.Test.YtceafmknfkaedaaGreatDoorM15
namespace Go.Proofs.YtceafmknfkaedaaGreatDoor
open Go Go.Proofs Go.Proofs.YtceafmknfkaedaaGreatDoor.Rk
set_option linter.unusedVariables false
set_option maxRecDepth 1000000 in
theorem none_run (l : List Nat) (n : Int) : ansTrue (call Tryz.prog (addT told0 memo30.f (oMemo memo30)) (dcall Tryz.prog 100000) 100000 300 3 [.str l, .int .i64 n] ⟨.leaf, 0, []⟩) = true := by kernel_rfl
theorem none_any (s : ByteArray) (n : Int) (w : World) : Calls Tryz.prog 3 #[.string s, .int .i64 n] w (fun e w' => e = .returned (.bool true) ∧ Go.RowKit.Below w.heap.size w w') :=
  closed_args plain_ mixed_ (told0_ok.add told_m30) 100000 300 (none_run (bytesOf s) n) #[.string s, .int .i64 n] (.cons _ _ _ _ (VR.string s) (.cons _ _ _ _ (.int _ _) .nil)) w
end Go.Proofs.YtceafmknfkaedaaGreatDoor
