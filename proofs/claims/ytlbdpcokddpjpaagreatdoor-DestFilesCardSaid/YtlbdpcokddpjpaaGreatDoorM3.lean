/- Calls, each reckoned by itself out of the blocks that it touches. -/
import Derived.Test.YtlbdpcokddpjpaaGreatDoorM1
import Derived.Test.YtlbdpcokddpjpaaGreatDoorM2
namespace Go.Proofs.YtlbdpcokddpjpaaGreatDoor
open Go Go.Proofs Go.Proofs.YtlbdpcokddpjpaaGreatDoor.Rk
set_option linter.unusedVariables false
/-- One call, reckoned by itself: caduceus/caduceuslaw23.alive. -/
def memo5 : Memo where
  f := 5
  args := []
  n0 := 0
  old := []
  v := (.bool true)
  n1 := 1537
  new := []
noncomputable def told5 : Rk.Told := (addT (addT (addT told0 memo1.f (oMemo memo1)) memo2.f (oMemo memo2)) memo4.f (oMemo memo4))
set_option maxRecDepth 1000000 in
theorem memo5_ok : memo5.check (call Tryz.prog told5 (dcall Tryz.prog 100000) 100000 300 memo5.f memo5.args memo5.start) = true := by kernel_rfl
theorem told_m5 : ToldT Tryz.prog memo5.f (oMemo memo5) := told_memo plain_ mixed_ (((told0_ok.add told_m1).add told_m2).add told_m4) 100000 300 memo5 memo5_ok
end Go.Proofs.YtlbdpcokddpjpaaGreatDoor
