/- Calls, each reckoned by itself out of the blocks that it touches. -/
import Derived.Test.YtceafmknfkaedaaGreatDoorTold
namespace Go.Proofs.YtceafmknfkaedaaGreatDoor
open Go Go.Proofs Go.Proofs.YtceafmknfkaedaaGreatDoor.Rk
set_option linter.unusedVariables false
/-- One call, reckoned by itself: caduceus/conf.Parse. -/
def memo1 : Memo where
  f := 80
  args := [(.str [99, 104, 97, 110, 110, 101, 108, 32, 97, 100, 116, 32, 123, 32, 115, 111, 117, 114, 99, 101, 32, 109, 108, 108, 112, 32, 54, 54, 54, 49, 59, 32, 100, 101, 115, 116, 32, 108, 97, 98, 32, 123, 32, 99, 104, 97, 105, 110, 32, 49, 59, 32, 102, 105, 108, 101, 32, 34, 108, 97, 98, 34, 59, 32, 125, 32, 125])]
  n0 := 77
  old := []
  v := (.tuple [(.agg [(.slice 230 0 1 1 9), .nils]), (.int .i64 0), (.int .i64 0), (.int .i64 0)])
  n1 := 234
  new := [(223, (.cells 194 [(.str [108, 97, 98]), (.int .i64 1), (.bool true), (.int .i64 0), (.str [108, 97, 98]), (.int .i64 0), (.int .i64 1), (.int .i64 30), (.str [])])),
    (230, (.cells 146 [(.str [97, 100, 116]), (.bool false), (.int .i64 6661), (.str []), (.str []), (.str []), (.str []), (.slice 223 0 1 1 9), (.int .i64 0)]))]
noncomputable def told1 : Rk.Told := told0
set_option maxRecDepth 1000000 in
theorem memo1_ok : memo1.check (call Tryz.prog told1 (dcall Tryz.prog 100000) 100000 300 memo1.f memo1.args memo1.start) = true := by kernel_rfl
theorem told_m1 : ToldT Tryz.prog memo1.f (oMemo memo1) := told_memo plain_ mixed_ told0_ok 100000 300 memo1 memo1_ok
/-- One call, reckoned by itself: caduceus/engine.planned. -/
def memo2 : Memo where
  f := 28
  args := [(.str [99, 104, 97, 110, 110, 101, 108, 32, 97, 100, 116, 32, 123, 32, 115, 111, 117, 114, 99, 101, 32, 109, 108, 108, 112, 32, 54, 54, 54, 49, 59, 32, 100, 101, 115, 116, 32, 108, 97, 98, 32, 123, 32, 99, 104, 97, 105, 110, 32, 49, 59, 32, 102, 105, 108, 101, 32, 34, 108, 97, 98, 34, 59, 32, 125, 32, 125])]
  n0 := 77
  old := []
  v := (.tuple [(.ptr 263 0), (.str [99, 104, 97, 110, 110, 101, 108, 32, 97, 100, 116, 32, 123, 10, 32, 32, 115, 111, 117, 114, 99, 101, 32, 109, 108, 108, 112, 32, 54, 54, 54, 49, 59, 10, 32, 32, 100, 101, 115, 116, 32, 108, 97, 98, 32, 123, 10, 32, 32, 32, 32, 99, 104, 97, 105, 110, 32, 49, 59, 10, 32, 32, 32, 32, 102, 105, 108, 101, 32, 34, 108, 97, 98, 34, 59, 10, 32, 32, 125, 10, 125, 10]), (.int .i64 0), (.str [])])
  n1 := 349
  new := [(259, (.cells 194 [(.str [108, 97, 98]), (.int .i64 1), (.bool true), (.int .i64 0), (.str [108, 97, 98]), (.int .i64 0), (.int .i64 1), (.int .i64 30), (.str [])])),
    (261, (.cells 146 [(.str [97, 100, 116]), (.bool false), (.int .i64 6661), (.str []), (.str []), (.str []), (.str []), (.slice 259 0 1 1 9), (.int .i64 0)])),
    (262, (.map [⟨(.str [97, 100, 116]), (.agg [.nils, .nils, .nils, (.map 283)]), 0⟩] 1)),
    (263, (.cells 273 [(.slice 261 0 1 1 9), .nils, (.map 262)])),
    (283, (.map [⟨(.str [108, 97, 98]), .nils, 0⟩] 1))]
noncomputable def told2 : Rk.Told := (addT told0 memo1.f (oMemo memo1))
set_option maxRecDepth 1000000 in
theorem memo2_ok : memo2.check (call Tryz.prog told2 (dcall Tryz.prog 100000) 100000 300 memo2.f memo2.args memo2.start) = true := by kernel_rfl
theorem told_m2 : ToldT Tryz.prog memo2.f (oMemo memo2) := told_memo plain_ mixed_ (told0_ok.add told_m1) 100000 300 memo2 memo2_ok
end Go.Proofs.YtceafmknfkaedaaGreatDoor
