/- Calls, each reckoned by itself out of the blocks that it touches. -/
import Derived.Test.YtlbdpcokddpjpaaGreatDoorTold
namespace Go.Proofs.YtlbdpcokddpjpaaGreatDoor
open Go Go.Proofs Go.Proofs.YtlbdpcokddpjpaaGreatDoor.Rk
set_option linter.unusedVariables false
/-- One call, reckoned by itself: caduceus/valid.New. -/
def memo1 : Memo where
  f := 22
  args := [(.agg [(.slice 205 0 1 1 9), .nils])]
  n0 := 210
  old := [⟨198, (.cells 340 [(.str [108, 97, 98]), (.int .i64 1), (.bool true), (.int .i64 0), (.str [108, 97, 98]), (.int .i64 0), (.int .i64 1), (.int .i64 30), (.str [])]), (.cells 340 [(.str [108, 97, 98]), (.int .i64 1), (.bool true), (.int .i64 0), (.str [108, 97, 98]), (.int .i64 0), (.int .i64 1), (.int .i64 30), (.str [])]), false⟩,
    ⟨205, (.cells 236 [(.str [97, 100, 116]), (.bool false), (.int .i64 1), (.str []), (.str []), (.str [64, 77, 83, 72, 45, 57, 46, 49, 32, 61, 61, 32, 34, 65, 68, 84, 34]), (.str []), (.slice 198 0 1 1 9), (.int .i64 0)]), (.cells 236 [(.str [97, 100, 116]), (.bool false), (.int .i64 1), (.str []), (.str []), (.str [64, 77, 83, 72, 45, 57, 46, 49, 32, 61, 61, 32, 34, 65, 68, 84, 34]), (.str []), (.slice 198 0 1 1 9), (.int .i64 0)]), false⟩]
  v := (.tuple [(.ptr 238 0), (.int .i64 0), (.str [])])
  n1 := 403
  new := [(234, (.cells 340 [(.str [108, 97, 98]), (.int .i64 1), (.bool true), (.int .i64 0), (.str [108, 97, 98]), (.int .i64 0), (.int .i64 1), (.int .i64 30), (.str [])])),
    (236, (.cells 236 [(.str [97, 100, 116]), (.bool false), (.int .i64 1), (.str []), (.str []), (.str [64, 77, 83, 72, 45, 57, 46, 49, 32, 61, 61, 32, 34, 65, 68, 84, 34]), (.str []), (.slice 234 0 1 1 9), (.int .i64 0)])),
    (237, (.map [⟨(.str [97, 100, 116]), (.agg [.nils, (.slice 315 0 3 3 10), .nils, (.map 258)]), 0⟩] 1)),
    (238, (.cells 217 [(.slice 236 0 1 1 9), .nils, (.map 237)])),
    (258, (.map [⟨(.str [108, 97, 98]), .nils, 0⟩] 1)),
    (315, (.cells 436 [(.int .i64 15), (.int .i64 2), (.str []), (.int .i64 0), (.str []), (.int .i64 0), (.int .i64 0), (.int .i64 0), (.int .i64 0), (.int .i64 0), (.int .i64 11), (.int .i64 0), (.str []), (.int .i64 0), (.str [77, 83, 72]), (.int .i64 1), (.int .i64 9), (.int .i64 1), (.int .i64 1), (.int .i64 1), (.int .i64 7), (.int .i64 0), (.str [65, 68, 84]), (.int .i64 0), (.str []), (.int .i64 0), (.int .i64 0), (.int .i64 0), (.int .i64 0), (.int .i64 0)]))]
noncomputable def told1 : Rk.Told := told0
set_option maxRecDepth 1000000 in
theorem memo1_ok : memo1.check (call Tryz.prog told1 (dcall Tryz.prog 100000) 100000 300 memo1.f memo1.args memo1.start) = true := by kernel_rfl
theorem told_m1 : ToldT Tryz.prog memo1.f (oMemo memo1) := told_memo plain_ mixed_ told0_ok 100000 300 memo1 memo1_ok
/-- One call, reckoned by itself: caduceus/dest.Process. -/
def memo2 : Memo where
  f := 23
  args := [(.ptr 238 0), (.str [97, 100, 116]), (.agg [(.int .i64 1), (.int .i64 1), (.int .i64 0), (.int .i64 0), (.int .i64 (-1)), (.str [77, 83, 72, 124, 94, 126, 92, 38, 124, 124, 124, 124, 124, 124, 124, 79, 82, 85, 124, 55]), (.int .i64 0), .nils]), (.int .i64 5)]
  n0 := 403
  old := [⟨238, (.cells 217 [(.slice 236 0 1 1 9), .nils, (.map 237)]), (.cells 217 [(.slice 236 0 1 1 9), .nils, (.map 237)]), false⟩,
    ⟨315, (.cells 436 [(.int .i64 15), (.int .i64 2), (.str []), (.int .i64 0), (.str []), (.int .i64 0), (.int .i64 0), (.int .i64 0), (.int .i64 0), (.int .i64 0), (.int .i64 11), (.int .i64 0), (.str []), (.int .i64 0), (.str [77, 83, 72]), (.int .i64 1), (.int .i64 9), (.int .i64 1), (.int .i64 1), (.int .i64 1), (.int .i64 7), (.int .i64 0), (.str [65, 68, 84]), (.int .i64 0), (.str []), (.int .i64 0), (.int .i64 0), (.int .i64 0), (.int .i64 0), (.int .i64 0)]), (.cells 436 [(.int .i64 15), (.int .i64 2), (.str []), (.int .i64 0), (.str []), (.int .i64 0), (.int .i64 0), (.int .i64 0), (.int .i64 0), (.int .i64 0), (.int .i64 11), (.int .i64 0), (.str []), (.int .i64 0), (.str [77, 83, 72]), (.int .i64 1), (.int .i64 9), (.int .i64 1), (.int .i64 1), (.int .i64 1), (.int .i64 7), (.int .i64 0), (.str [65, 68, 84]), (.int .i64 0), (.str []), (.int .i64 0), (.int .i64 0), (.int .i64 0), (.int .i64 0), (.int .i64 0)]), false⟩,
    ⟨237, (.map [⟨(.str [97, 100, 116]), (.agg [.nils, (.slice 315 0 3 3 10), .nils, (.map 258)]), 0⟩] 1), (.map [⟨(.str [97, 100, 116]), (.agg [.nils, (.slice 315 0 3 3 10), .nils, (.map 258)]), 0⟩] 1), false⟩,
    ⟨234, (.cells 340 [(.str [108, 97, 98]), (.int .i64 1), (.bool true), (.int .i64 0), (.str [108, 97, 98]), (.int .i64 0), (.int .i64 1), (.int .i64 30), (.str [])]), (.cells 340 [(.str [108, 97, 98]), (.int .i64 1), (.bool true), (.int .i64 0), (.str [108, 97, 98]), (.int .i64 0), (.int .i64 1), (.int .i64 30), (.str [])]), false⟩,
    ⟨236, (.cells 236 [(.str [97, 100, 116]), (.bool false), (.int .i64 1), (.str []), (.str []), (.str [64, 77, 83, 72, 45, 57, 46, 49, 32, 61, 61, 32, 34, 65, 68, 84, 34]), (.str []), (.slice 234 0 1 1 9), (.int .i64 0)]), (.cells 236 [(.str [97, 100, 116]), (.bool false), (.int .i64 1), (.str []), (.str []), (.str [64, 77, 83, 72, 45, 57, 46, 49, 32, 61, 61, 32, 34, 65, 68, 84, 34]), (.str []), (.slice 234 0 1 1 9), (.int .i64 0)]), false⟩]
  v := (.agg [(.int .i64 1), (.int .i64 1), (.int .i64 0), (.int .i64 1), (.int .i64 5), (.str [77, 83, 72, 124, 94, 126, 92, 38, 124, 124, 124, 124, 124, 124, 124, 79, 82, 85, 124, 55]), (.int .i64 0), .nils])
  n1 := 871
  new := []
noncomputable def told2 : Rk.Told := told0
set_option maxRecDepth 1000000 in
theorem memo2_ok : memo2.check (call Tryz.prog told2 (dcall Tryz.prog 100000) 100000 300 memo2.f memo2.args memo2.start) = true := by kernel_rfl
theorem told_m2 : ToldT Tryz.prog memo2.f (oMemo memo2) := told_memo plain_ mixed_ told0_ok 100000 300 memo2 memo2_ok
end Go.Proofs.YtlbdpcokddpjpaaGreatDoor
