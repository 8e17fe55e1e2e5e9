/- Calls, each reckoned by itself out of the blocks that it touches. -/
import Derived.Test.YtceafmknfkaedaaGreatDoorM2
import Derived.Test.YtceafmknfkaedaaGreatDoorM10
import Derived.Test.YtceafmknfkaedaaGreatDoorM12
import Derived.Test.YtceafmknfkaedaaGreatDoorM14
namespace Go.Proofs.YtceafmknfkaedaaGreatDoor
open Go Go.Proofs Go.Proofs.YtceafmknfkaedaaGreatDoor.Rk
set_option linter.unusedVariables false
/-- One call, reckoned by itself: (caduceus/engine.Engine).Counts. -/
def memo29 : Memo where
  f := 25
  args := [(.ptr 43 0), (.str [97, 100, 116])]
  n0 := 4171
  old := [⟨4136, (.map [⟨(.str [116, 99, 111, 110, 102]), (.str [99, 104, 97, 110, 110, 101, 108, 32, 97, 100, 116, 32, 123, 10, 32, 32, 115, 111, 117, 114, 99, 101, 32, 109, 108, 108, 112, 32, 54, 54, 54, 49, 59, 10, 32, 32, 100, 101, 115, 116, 32, 108, 97, 98, 32, 123, 10, 32, 32, 32, 32, 99, 104, 97, 105, 110, 32, 49, 59, 10, 32, 32, 32, 32, 102, 105, 108, 101, 32, 34, 108, 97, 98, 34, 59, 10, 32, 32, 125, 10, 125, 10]), 0⟩, ⟨(.str [116, 100, 101, 112, 108, 111, 121, 101, 100]), (.str [97, 100, 116]), 1⟩, ⟨(.str [110, 97, 100, 116]), (.str [49]), 2⟩, ⟨(.str [114, 97, 100, 116, 47, 0, 0, 0, 1]), (.str [0, 0, 0, 0, 0, 0, 0, 1, 0, 0, 0, 0, 0, 0, 0, 0, 0, 0, 0, 0, 0, 0, 0, 3, 0, 0, 0, 0, 0, 0, 0, 0, 0, 0, 0, 0, 0, 0, 0, 0, 0, 0, 0, 0, 0, 0, 0, 1, 0, 0, 0, 0, 0, 0, 0, 3, 108, 97, 98, 0, 0, 0, 0, 0, 0, 0, 3, 0, 0, 0, 0, 0, 0, 0, 1, 0, 0, 0, 0, 0, 0, 0, 0, 0, 0, 0, 0, 0, 0, 0, 25, 77, 83, 72, 124, 94, 126, 92, 38, 124, 124, 124, 124, 124, 124, 124, 65, 68, 84, 94, 65, 48, 49, 124, 55, 13, 0, 0, 0, 0, 0, 0, 0, 20, 111, 117, 116, 47, 108, 97, 98, 47, 97, 100, 116, 45, 48, 48, 48, 48, 48, 48, 48, 49]), 3⟩, ⟨(.str [119, 97, 100, 116, 47, 0, 0, 0, 1, 0]), (.str [77, 83, 72, 124, 94, 126, 92, 38, 124, 124, 124, 124, 124, 124, 124, 65, 68, 84, 94, 65, 48, 49, 124, 55]), 4⟩] 5), (.map [⟨(.str [116, 99, 111, 110, 102]), (.str [99, 104, 97, 110, 110, 101, 108, 32, 97, 100, 116, 32, 123, 10, 32, 32, 115, 111, 117, 114, 99, 101, 32, 109, 108, 108, 112, 32, 54, 54, 54, 49, 59, 10, 32, 32, 100, 101, 115, 116, 32, 108, 97, 98, 32, 123, 10, 32, 32, 32, 32, 99, 104, 97, 105, 110, 32, 49, 59, 10, 32, 32, 32, 32, 102, 105, 108, 101, 32, 34, 108, 97, 98, 34, 59, 10, 32, 32, 125, 10, 125, 10]), 0⟩, ⟨(.str [116, 100, 101, 112, 108, 111, 121, 101, 100]), (.str [97, 100, 116]), 1⟩, ⟨(.str [110, 97, 100, 116]), (.str [49]), 2⟩, ⟨(.str [114, 97, 100, 116, 47, 0, 0, 0, 1]), (.str [0, 0, 0, 0, 0, 0, 0, 1, 0, 0, 0, 0, 0, 0, 0, 0, 0, 0, 0, 0, 0, 0, 0, 3, 0, 0, 0, 0, 0, 0, 0, 0, 0, 0, 0, 0, 0, 0, 0, 0, 0, 0, 0, 0, 0, 0, 0, 1, 0, 0, 0, 0, 0, 0, 0, 3, 108, 97, 98, 0, 0, 0, 0, 0, 0, 0, 3, 0, 0, 0, 0, 0, 0, 0, 1, 0, 0, 0, 0, 0, 0, 0, 0, 0, 0, 0, 0, 0, 0, 0, 25, 77, 83, 72, 124, 94, 126, 92, 38, 124, 124, 124, 124, 124, 124, 124, 65, 68, 84, 94, 65, 48, 49, 124, 55, 13, 0, 0, 0, 0, 0, 0, 0, 20, 111, 117, 116, 47, 108, 97, 98, 47, 97, 100, 116, 45, 48, 48, 48, 48, 48, 48, 48, 49]), 3⟩, ⟨(.str [119, 97, 100, 116, 47, 0, 0, 0, 1, 0]), (.str [77, 83, 72, 124, 94, 126, 92, 38, 124, 124, 124, 124, 124, 124, 124, 65, 68, 84, 94, 65, 48, 49, 124, 55]), 4⟩] 5), false⟩,
    ⟨29, (.cells 461 [(.ptr 19 0), (.str [100, 98]), (.ptr 25 0), (.map 4136), .nils, (.bool false)]), (.cells 461 [(.ptr 19 0), (.str [100, 98]), (.ptr 25 0), (.map 4136), (.slice 4185 0 5 5 1), (.bool false)]), true⟩,
    ⟨39, (.cells 247 [(.ptr 29 0)]), (.cells 247 [(.ptr 29 0)]), false⟩,
    ⟨43, (.cells 63 [(.ptr 19 0), (.ptr 39 0), (.ptr 263 0), (.str [99, 104, 97, 110, 110, 101, 108, 32, 97, 100, 116, 32, 123, 10, 32, 32, 115, 111, 117, 114, 99, 101, 32, 109, 108, 108, 112, 32, 54, 54, 54, 49, 59, 10, 32, 32, 100, 101, 115, 116, 32, 108, 97, 98, 32, 123, 10, 32, 32, 32, 32, 99, 104, 97, 105, 110, 32, 49, 59, 10, 32, 32, 32, 32, 102, 105, 108, 101, 32, 34, 108, 97, 98, 34, 59, 10, 32, 32, 125, 10, 125, 10]), (.map 40), (.map 41), (.map 42), (.int .i64 0), (.slice 3858 0 2 2 6), (.bool false)]), (.cells 63 [(.ptr 19 0), (.ptr 39 0), (.ptr 263 0), (.str [99, 104, 97, 110, 110, 101, 108, 32, 97, 100, 116, 32, 123, 10, 32, 32, 115, 111, 117, 114, 99, 101, 32, 109, 108, 108, 112, 32, 54, 54, 54, 49, 59, 10, 32, 32, 100, 101, 115, 116, 32, 108, 97, 98, 32, 123, 10, 32, 32, 32, 32, 99, 104, 97, 105, 110, 32, 49, 59, 10, 32, 32, 32, 32, 102, 105, 108, 101, 32, 34, 108, 97, 98, 34, 59, 10, 32, 32, 125, 10, 125, 10]), (.map 40), (.map 41), (.map 42), (.int .i64 0), (.slice 3858 0 2 2 6), (.bool false)]), false⟩,
    ⟨259, (.cells 194 [(.str [108, 97, 98]), (.int .i64 1), (.bool true), (.int .i64 0), (.str [108, 97, 98]), (.int .i64 0), (.int .i64 1), (.int .i64 30), (.str [])]), (.cells 194 [(.str [108, 97, 98]), (.int .i64 1), (.bool true), (.int .i64 0), (.str [108, 97, 98]), (.int .i64 0), (.int .i64 1), (.int .i64 30), (.str [])]), false⟩,
    ⟨261, (.cells 146 [(.str [97, 100, 116]), (.bool false), (.int .i64 6661), (.str []), (.str []), (.str []), (.str []), (.slice 259 0 1 1 9), (.int .i64 0)]), (.cells 146 [(.str [97, 100, 116]), (.bool false), (.int .i64 6661), (.str []), (.str []), (.str []), (.str []), (.slice 259 0 1 1 9), (.int .i64 0)]), false⟩,
    ⟨263, (.cells 273 [(.slice 261 0 1 1 9), .nils, (.map 262)]), (.cells 273 [(.slice 261 0 1 1 9), .nils, (.map 262)]), false⟩]
  v := (.agg [(.int .i64 1), (.int .i64 0), (.int .i64 0), (.int .i64 0), (.int .i64 1), (.int .i64 0)])
  n1 := 4215
  new := [(4185, (.cells 18 [(.str [110, 97, 100, 116]), (.str [114, 97, 100, 116, 47, 0, 0, 0, 1]), (.str [116, 99, 111, 110, 102]), (.str [116, 100, 101, 112, 108, 111, 121, 101, 100]), (.str [119, 97, 100, 116, 47, 0, 0, 0, 1, 0])]))]
noncomputable def told29 : Rk.Told := told0
set_option maxRecDepth 1000000 in
theorem memo29_ok : memo29.check (call Tryz.prog told29 (dcall Tryz.prog 100000) 100000 300 memo29.f memo29.args memo29.start) = true := by kernel_rfl
theorem told_m29 : ToldT Tryz.prog memo29.f (oMemo memo29) := told_memo plain_ mixed_ told0_ok 100000 300 memo29 memo29_ok
/-- One call, reckoned by itself: caduceus/caduceuslaw24.alive. -/
def memo30 : Memo where
  f := 8
  args := []
  n0 := 18
  old := []
  v := (.bool true)
  n1 := 4216
  new := []
noncomputable def told30 : Rk.Told := (addT (addT (addT (addT (addT (addT told0 memo3.f (oMemo memo3)) memo4.f (oMemo memo4)) memo19.f (oMemo memo19)) memo24.f (oMemo memo24)) memo28.f (oMemo memo28)) memo29.f (oMemo memo29))
set_option maxRecDepth 1000000 in
theorem memo30_ok : memo30.check (call Tryz.prog told30 (dcall Tryz.prog 100000) 100000 300 memo30.f memo30.args memo30.start) = true := by kernel_rfl
theorem told_m30 : ToldT Tryz.prog memo30.f (oMemo memo30) := told_memo plain_ mixed_ ((((((told0_ok.add told_m3).add told_m4).add told_m19).add told_m24).add told_m28).add told_m29) 100000 300 memo30 memo30_ok
end Go.Proofs.YtceafmknfkaedaaGreatDoor
