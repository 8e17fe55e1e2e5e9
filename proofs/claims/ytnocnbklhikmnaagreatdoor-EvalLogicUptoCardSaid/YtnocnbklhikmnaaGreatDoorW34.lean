/- Part 34 of the proof. -/
import Derived.Test.YtnocnbklhikmnaaGreatDoorW33
set_option linter.unusedVariables false
set_option maxRecDepth 1000000
set_option maxHeartbeats 16000000
namespace Go.Proofs.YtnocnbklhikmnaaGreatDoor
open Go Go.Proofs Go.Proofs.YtnocnbklhikmnaaGreatDoor.Rk
def memo1:Memo where
 f:=16
 args:=[(.str [108,101,116,32,120,32,61,32,64,80,73,68,45,49,32,43,32,34,98,34,59,32,115,101,116,32,64,80,73,68,45,50,32,61,32,117,112,112,101,114,40,120,41,59,32,114,111,117,116,101,32,34,100,34,59])]
 n0:=101
 old:=[]
 v:=(.tuple [(.slice 304 0 9 9 10),(.int .i64 0),(.int .i64 0),(.int .i64 0)])
 n1:=376
 new:=[(304,(.cells 288 [(.int .i64 0),(.int .i64 3),(.str []),(.int .i64 0),(.str []),(.int .i64 0),(.int .i64 0),(.int .i64 0),(.int .i64 0),(.int .i64 0),(.int .i64 4),(.int .i64 1),(.str [120]),(.int .i64 0),(.str []),(.int .i64 0),(.int .i64 0),(.int .i64 0),(.int .i64 0),(.int .i64 0),(.int .i64 21),(.int .i64 2),(.str []),(.int .i64 0),(.str []),(.int .i64 0),(.int .i64 0),(.int .i64 0),(.int .i64 0),(.int .i64 0),(.int .i64 11),(.int .i64 0),(.str []),(.int .i64 0),(.str [80,73,68]),(.int .i64 1),(.int .i64 1),(.int .i64 1),(.int .i64 1),(.int .i64 1),(.int .i64 7),(.int .i64 0),(.str [98]),(.int .i64 0),(.str []),(.int .i64 0),(.int .i64 0),(.int .i64 0),(.int .i64 0),(.int .i64 0),(.int .i64 2),(.int .i64 1),(.str []),(.int .i64 0),(.str [80,73,68]),(.int .i64 1),(.int .i64 2),(.int .i64 1),(.int .i64 1),(.int .i64 1),(.int .i64 23),(.int .i64 1),(.str [117,112,112,101,114]),(.int .i64 0),(.str []),(.int .i64 0),(.int .i64 0),(.int .i64 0),(.int .i64 0),(.int .i64 0),(.int .i64 12),(.int .i64 0),(.str [120]),(.int .i64 0),(.str []),(.int .i64 0),(.int .i64 0),(.int .i64 0),(.int .i64 0),(.int .i64 0),(.int .i64 5),(.int .i64 0),(.str [100]),(.int .i64 0),(.str []),(.int .i64 0),(.int .i64 0),(.int .i64 0),(.int .i64 0),(.int .i64 0)]))]
noncomputable def told1:Rk.Told:=told0
theorem memo1_ok:memo1.check (call Tryz.prog told1 (dcall Tryz.prog 100000) 100000 300 memo1.f memo1.args memo1.start)=true:=by kernel_rfl
theorem told_m1:ToldT Tryz.prog memo1.f (oMemo memo1):=told_memo plain_ mixed_ told0_ok 100000 300 memo1 memo1_ok
def memo2:Memo where
 f:=17
 args:=[(.slice 304 0 9 9 10),(.agg [(.int .u8 124),(.int .u8 94),(.int .u8 126),(.int .u8 92),(.int .u8 38),(.slice 99 0 2 2 2)]),.nils,(.str []),(.int .i64 2000)]
 n0:=376
 old:=[⟨304,(.cells 288 [(.int .i64 0),(.int .i64 3),(.str []),(.int .i64 0),(.str []),(.int .i64 0),(.int .i64 0),(.int .i64 0),(.int .i64 0),(.int .i64 0),(.int .i64 4),(.int .i64 1),(.str [120]),(.int .i64 0),(.str []),(.int .i64 0),(.int .i64 0),(.int .i64 0),(.int .i64 0),(.int .i64 0),(.int .i64 21),(.int .i64 2),(.str []),(.int .i64 0),(.str []),(.int .i64 0),(.int .i64 0),(.int .i64 0),(.int .i64 0),(.int .i64 0),(.int .i64 11),(.int .i64 0),(.str []),(.int .i64 0),(.str [80,73,68]),(.int .i64 1),(.int .i64 1),(.int .i64 1),(.int .i64 1),(.int .i64 1),(.int .i64 7),(.int .i64 0),(.str [98]),(.int .i64 0),(.str []),(.int .i64 0),(.int .i64 0),(.int .i64 0),(.int .i64 0),(.int .i64 0),(.int .i64 2),(.int .i64 1),(.str []),(.int .i64 0),(.str [80,73,68]),(.int .i64 1),(.int .i64 2),(.int .i64 1),(.int .i64 1),(.int .i64 1),(.int .i64 23),(.int .i64 1),(.str [117,112,112,101,114]),(.int .i64 0),(.str []),(.int .i64 0),(.int .i64 0),(.int .i64 0),(.int .i64 0),(.int .i64 0),(.int .i64 12),(.int .i64 0),(.str [120]),(.int .i64 0),(.str []),(.int .i64 0),(.int .i64 0),(.int .i64 0),(.int .i64 0),(.int .i64 0),(.int .i64 5),(.int .i64 0),(.str [100]),(.int .i64 0),(.str []),(.int .i64 0),(.int .i64 0),(.int .i64 0),(.int .i64 0),(.int .i64 0)]),(.cells 288 [(.int .i64 0),(.int .i64 3),(.str []),(.int .i64 0),(.str []),(.int .i64 0),(.int .i64 0),(.int .i64 0),(.int .i64 0),(.int .i64 0),(.int .i64 4),(.int .i64 1),(.str [120]),(.int .i64 0),(.str []),(.int .i64 0),(.int .i64 0),(.int .i64 0),(.int .i64 0),(.int .i64 0),(.int .i64 21),(.int .i64 2),(.str []),(.int .i64 0),(.str []),(.int .i64 0),(.int .i64 0),(.int .i64 0),(.int .i64 0),(.int .i64 0),(.int .i64 11),(.int .i64 0),(.str []),(.int .i64 0),(.str [80,73,68]),(.int .i64 1),(.int .i64 1),(.int .i64 1),(.int .i64 1),(.int .i64 1),(.int .i64 7),(.int .i64 0),(.str [98]),(.int .i64 0),(.str []),(.int .i64 0),(.int .i64 0),(.int .i64 0),(.int .i64 0),(.int .i64 0),(.int .i64 2),(.int .i64 1),(.str []),(.int .i64 0),(.str [80,73,68]),(.int .i64 1),(.int .i64 2),(.int .i64 1),(.int .i64 1),(.int .i64 1),(.int .i64 23),(.int .i64 1),(.str [117,112,112,101,114]),(.int .i64 0),(.str []),(.int .i64 0),(.int .i64 0),(.int .i64 0),(.int .i64 0),(.int .i64 0),(.int .i64 12),(.int .i64 0),(.str [120]),(.int .i64 0),(.str []),(.int .i64 0),(.int .i64 0),(.int .i64 0),(.int .i64 0),(.int .i64 0),(.int .i64 5),(.int .i64 0),(.str [100]),(.int .i64 0),(.str []),(.int .i64 0),(.int .i64 0),(.int .i64 0),(.int .i64 0),(.int .i64 0)]),false⟩,
  ⟨91,(.cells 18 [(.str [97])]),(.cells 18 [(.str [97])]),false⟩,
  ⟨93,(.cells 70 [(.slice 91 0 1 1 1)]),(.cells 70 [(.slice 91 0 1 1 1)]),false⟩,
  ⟨95,(.cells 94 [(.slice 93 0 1 1 1)]),(.cells 94 [(.slice 93 0 1 1 1)]),false⟩,
  ⟨97,(.cells 92 [(.slice 95 0 1 1 1)]),(.cells 92 [(.slice 95 0 1 1 1)]),false⟩,
  ⟨99,(.cells 90 [(.str [77,83,72]),(.slice 85 0 2 2 1),(.str [80,73,68]),(.slice 97 0 1 1 1)]),(.cells 90 [(.str [77,83,72]),(.slice 85 0 2 2 1),(.str [80,73,68]),(.slice 97 0 1 1 1)]),false⟩,
  ⟨79,(.cells 18 [(.str [94,126,92,38])]),(.cells 18 [(.str [94,126,92,38])]),false⟩,
  ⟨81,(.cells 70 [(.slice 79 0 1 1 1)]),(.cells 70 [(.slice 79 0 1 1 1)]),false⟩,
  ⟨83,(.cells 94 [(.slice 81 0 1 1 1)]),(.cells 94 [(.slice 81 0 1 1 1)]),false⟩,
  ⟨85,(.cells 92 [(.slice 74 0 1 1 1),(.slice 83 0 1 1 1)]),(.cells 92 [(.slice 74 0 1 1 1),(.slice 83 0 1 1 1)]),false⟩,
  ⟨70,(.cells 18 [(.str [124])]),(.cells 18 [(.str [124])]),false⟩,
  ⟨72,(.cells 70 [(.slice 70 0 1 1 1)]),(.cells 70 [(.slice 70 0 1 1 1)]),false⟩,
  ⟨74,(.cells 94 [(.slice 72 0 1 1 1)]),(.cells 94 [(.slice 72 0 1 1 1)]),false⟩]
 v:=(.tuple [(.agg [(.int .u8 124),(.int .u8 94),(.int .u8 126),(.int .u8 92),(.int .u8 38),(.slice 832 0 2 2 2),(.slice 789 0 1 1 1),(.bool false),(.int .i64 0),(.str []),(.int .i64 0),(.bool false),(.int .i64 9)]),(.int .i64 0)])
 n1:=833
 new:=[(789,(.cells 18 [(.str [100])])),
  (796,(.cells 18 [(.str [124])])),
  (798,(.cells 70 [(.slice 796 0 1 1 1)])),
  (800,(.cells 94 [(.slice 798 0 1 1 1)])),
  (804,(.cells 18 [(.str [94,126,92,38])])),
  (806,(.cells 70 [(.slice 804 0 1 1 1)])),
  (808,(.cells 94 [(.slice 806 0 1 1 1)])),
  (810,(.cells 92 [(.slice 800 0 1 1 1),(.slice 808 0 1 1 1)])),
  (816,(.cells 18 [(.str [97])])),
  (818,(.cells 70 [(.slice 816 0 1 1 1)])),
  (820,(.cells 94 [(.slice 818 0 1 1 1)])),
  (824,(.cells 18 [(.str [65,66])])),
  (826,(.cells 70 [(.slice 824 0 1 1 1)])),
  (828,(.cells 94 [(.slice 826 0 1 1 1)])),
  (830,(.cells 92 [(.slice 820 0 1 1 1),(.slice 828 0 1 1 1)])),
  (832,(.cells 90 [(.str [77,83,72]),(.slice 810 0 2 2 1),(.str [80,73,68]),(.slice 830 0 2 2 1)]))]
noncomputable def told2:Rk.Told:=told0
theorem memo2_ok:memo2.check (call Tryz.prog told2 (dcall Tryz.prog 100000) 100000 300 memo2.f memo2.args memo2.start)=true:=by kernel_rfl
theorem told_m2:ToldT Tryz.prog memo2.f (oMemo memo2):=told_memo plain_ mixed_ told0_ok 100000 300 memo2 memo2_ok
end Go.Proofs.YtnocnbklhikmnaaGreatDoor
