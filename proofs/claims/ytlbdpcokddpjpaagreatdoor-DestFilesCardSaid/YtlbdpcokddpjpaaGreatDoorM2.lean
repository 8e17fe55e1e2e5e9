/- Calls, each reckoned by itself out of the blocks that it touches. -/
import Derived.Test.YtlbdpcokddpjpaaGreatDoorTold
namespace Go.Proofs.YtlbdpcokddpjpaaGreatDoor
open Go Go.Proofs Go.Proofs.YtlbdpcokddpjpaaGreatDoor.Rk
set_option linter.unusedVariables false
/-- One call, reckoned by itself: (caduceus/dest.work).worked 2. -/
def memo3 : Memo where
  f := 124
  args := [(.ptr 887 0), (.ptr 886 0)]
  n0 := 891
  old := [⟨885, (.cells 263 [(.ptr 238 0), (.str [97, 100, 116]), (.bool false), (.int .i64 1), (.str []), (.str []), (.str [64, 77, 83, 72, 45, 57, 46, 49, 32, 61, 61, 32, 34, 65, 68, 84, 34]), (.str []), (.slice 877 0 1 1 9), (.int .i64 0), (.str [50, 48, 48, 48, 48, 49, 48, 49, 48, 48, 48, 48, 48, 53]), (.int .u8 0), (.int .u8 0), (.int .u8 0), (.int .u8 0), (.int .u8 0), .nils, .nils, .nils]), (.cells 263 [(.ptr 238 0), (.str [97, 100, 116]), (.bool false), (.int .i64 1), (.str []), (.str []), (.str [64, 77, 83, 72, 45, 57, 46, 49, 32, 61, 61, 32, 34, 65, 68, 84, 34]), (.str []), (.slice 877 0 1 1 9), (.int .i64 0), (.str [50, 48, 48, 48, 48, 49, 48, 49, 48, 48, 48, 48, 48, 53]), (.int .u8 124), (.int .u8 94), (.int .u8 126), (.int .u8 92), (.int .u8 38), (.slice 1167 0 1 1 2), .nils, .nils]), true⟩,
    ⟨886, (.cells 247 [(.ptr 885 0)]), (.cells 247 [(.ptr 885 0)]), false⟩,
    ⟨887, (.cells 19 [(.str [77, 83, 72, 124, 94, 126, 92, 38, 124, 124, 124, 124, 124, 124, 124, 65, 68, 84, 124, 55])]), (.cells 19 [(.str [77, 83, 72, 124, 94, 126, 92, 38, 124, 124, 124, 124, 124, 124, 124, 65, 68, 84, 124, 55])]), false⟩]
  v := (.tuple [])
  n1 := 1169
  new := [(1078, (.cells 18 [(.str [124])])),
    (1080, (.cells 66 [(.slice 1078 0 1 1 1)])),
    (1082, (.cells 398 [(.slice 1080 0 1 1 1)])),
    (1087, (.cells 18 [(.str [94, 126, 92, 38])])),
    (1089, (.cells 66 [(.slice 1087 0 1 1 1)])),
    (1091, (.cells 398 [(.slice 1089 0 1 1 1)])),
    (1096, (.cells 18 [(.str [])])),
    (1098, (.cells 66 [(.slice 1096 0 0 1 1)])),
    (1100, (.cells 398 [(.slice 1098 0 0 1 1)])),
    (1105, (.cells 18 [(.str [])])),
    (1107, (.cells 66 [(.slice 1105 0 0 1 1)])),
    (1109, (.cells 398 [(.slice 1107 0 0 1 1)])),
    (1114, (.cells 18 [(.str [])])),
    (1116, (.cells 66 [(.slice 1114 0 0 1 1)])),
    (1118, (.cells 398 [(.slice 1116 0 0 1 1)])),
    (1123, (.cells 18 [(.str [])])),
    (1125, (.cells 66 [(.slice 1123 0 0 1 1)])),
    (1127, (.cells 398 [(.slice 1125 0 0 1 1)])),
    (1132, (.cells 18 [(.str [])])),
    (1134, (.cells 66 [(.slice 1132 0 0 1 1)])),
    (1136, (.cells 398 [(.slice 1134 0 0 1 1)])),
    (1141, (.cells 18 [(.str [])])),
    (1143, (.cells 66 [(.slice 1141 0 0 1 1)])),
    (1145, (.cells 398 [(.slice 1143 0 0 1 1)])),
    (1150, (.cells 18 [(.str [65, 68, 84])])),
    (1152, (.cells 66 [(.slice 1150 0 1 1 1)])),
    (1154, (.cells 398 [(.slice 1152 0 1 1 1)])),
    (1159, (.cells 18 [(.str [55])])),
    (1161, (.cells 66 [(.slice 1159 0 1 1 1)])),
    (1163, (.cells 398 [(.slice 1161 0 1 1 1)])),
    (1165, (.cells 412 [(.slice 1082 0 1 1 1), (.slice 1091 0 1 1 1), (.slice 1100 0 0 1 1), (.slice 1109 0 0 1 1), (.slice 1118 0 0 1 1), (.slice 1127 0 0 1 1), (.slice 1136 0 0 1 1), (.slice 1145 0 0 1 1), (.slice 1154 0 1 1 1), (.slice 1163 0 1 1 1)])),
    (1167, (.cells 410 [(.str [77, 83, 72]), (.slice 1165 0 10 10 1)]))]
noncomputable def told3 : Rk.Told := told0
set_option maxRecDepth 1000000 in
theorem memo3_ok : memo3.check (call Tryz.prog told3 (dcall Tryz.prog 100000) 100000 300 memo3.f memo3.args memo3.start) = true := by kernel_rfl
theorem told_m3 : ToldT Tryz.prog memo3.f (oMemo memo3) := told_memo plain_ mixed_ told0_ok 100000 300 memo3 memo3_ok
/-- One call, reckoned by itself: caduceus/dest.Process. -/
def memo4 : Memo where
  f := 23
  args := [(.ptr 238 0), (.str [97, 100, 116]), (.agg [(.int .i64 1), (.int .i64 1), (.int .i64 0), (.int .i64 0), (.int .i64 (-1)), (.str [77, 83, 72, 124, 94, 126, 92, 38, 124, 124, 124, 124, 124, 124, 124, 65, 68, 84, 124, 55]), (.int .i64 0), .nils]), (.int .i64 5)]
  n0 := 872
  old := [⟨237, (.map [⟨(.str [97, 100, 116]), (.agg [.nils, (.slice 315 0 3 3 10), .nils, (.map 258)]), 0⟩] 1), (.map [⟨(.str [97, 100, 116]), (.agg [.nils, (.slice 315 0 3 3 10), .nils, (.map 258)]), 0⟩] 1), false⟩,
    ⟨238, (.cells 217 [(.slice 236 0 1 1 9), .nils, (.map 237)]), (.cells 217 [(.slice 236 0 1 1 9), .nils, (.map 237)]), false⟩,
    ⟨315, (.cells 436 [(.int .i64 15), (.int .i64 2), (.str []), (.int .i64 0), (.str []), (.int .i64 0), (.int .i64 0), (.int .i64 0), (.int .i64 0), (.int .i64 0), (.int .i64 11), (.int .i64 0), (.str []), (.int .i64 0), (.str [77, 83, 72]), (.int .i64 1), (.int .i64 9), (.int .i64 1), (.int .i64 1), (.int .i64 1), (.int .i64 7), (.int .i64 0), (.str [65, 68, 84]), (.int .i64 0), (.str []), (.int .i64 0), (.int .i64 0), (.int .i64 0), (.int .i64 0), (.int .i64 0)]), (.cells 436 [(.int .i64 15), (.int .i64 2), (.str []), (.int .i64 0), (.str []), (.int .i64 0), (.int .i64 0), (.int .i64 0), (.int .i64 0), (.int .i64 0), (.int .i64 11), (.int .i64 0), (.str []), (.int .i64 0), (.str [77, 83, 72]), (.int .i64 1), (.int .i64 9), (.int .i64 1), (.int .i64 1), (.int .i64 1), (.int .i64 7), (.int .i64 0), (.str [65, 68, 84]), (.int .i64 0), (.str []), (.int .i64 0), (.int .i64 0), (.int .i64 0), (.int .i64 0), (.int .i64 0)]), false⟩,
    ⟨234, (.cells 340 [(.str [108, 97, 98]), (.int .i64 1), (.bool true), (.int .i64 0), (.str [108, 97, 98]), (.int .i64 0), (.int .i64 1), (.int .i64 30), (.str [])]), (.cells 340 [(.str [108, 97, 98]), (.int .i64 1), (.bool true), (.int .i64 0), (.str [108, 97, 98]), (.int .i64 0), (.int .i64 1), (.int .i64 30), (.str [])]), false⟩,
    ⟨236, (.cells 236 [(.str [97, 100, 116]), (.bool false), (.int .i64 1), (.str []), (.str []), (.str [64, 77, 83, 72, 45, 57, 46, 49, 32, 61, 61, 32, 34, 65, 68, 84, 34]), (.str []), (.slice 234 0 1 1 9), (.int .i64 0)]), (.cells 236 [(.str [97, 100, 116]), (.bool false), (.int .i64 1), (.str []), (.str []), (.str [64, 77, 83, 72, 45, 57, 46, 49, 32, 61, 61, 32, 34, 65, 68, 84, 34]), (.str []), (.slice 234 0 1 1 9), (.int .i64 0)]), false⟩]
  v := (.agg [(.int .i64 1), (.int .i64 1), (.int .i64 0), (.int .i64 3), (.int .i64 (-1)), (.str [77, 83, 72, 124, 94, 126, 92, 38, 124, 124, 124, 124, 124, 124, 124, 65, 68, 84, 124, 55]), (.int .i64 0), (.slice 1481 0 1 1 6)])
  n1 := 1486
  new := [(1481, (.cells 110 [(.str [108, 97, 98]), (.int .i64 1), (.int .i64 0), (.int .i64 0), (.str [77, 83, 72, 124, 94, 126, 92, 38, 124, 124, 124, 124, 124, 124, 124, 65, 68, 84, 124, 55, 13]), (.str [])]))]
noncomputable def told4 : Rk.Told := (addT told0 memo3.f (oMemo memo3))
set_option maxRecDepth 1000000 in
theorem memo4_ok : memo4.check (call Tryz.prog told4 (dcall Tryz.prog 100000) 100000 300 memo4.f memo4.args memo4.start) = true := by kernel_rfl
theorem told_m4 : ToldT Tryz.prog memo4.f (oMemo memo4) := told_memo plain_ mixed_ (told0_ok.add told_m3) 100000 300 memo4 memo4_ok
end Go.Proofs.YtlbdpcokddpjpaaGreatDoor
