/- Calls, each reckoned by itself out of the blocks that it touches. -/
import Derived.Test.YtceafmknfkaedaaGreatDoorTold
namespace Go.Proofs.YtceafmknfkaedaaGreatDoor
open Go Go.Proofs Go.Proofs.YtceafmknfkaedaaGreatDoor.Rk
set_option linter.unusedVariables false
/-- One call, reckoned by itself: (caduceus/frame.Reader).Feed. -/
def memo5 : Memo where
  f := 60
  args := [(.ptr 464 0), (.str [11, 77, 83, 72, 124, 94, 126, 92, 38, 124, 124, 124, 124, 124, 124, 124, 65, 68, 84, 94, 65, 48, 49, 124, 55, 28, 13])]
  n0 := 485
  old := [⟨464, (.cells 383 [(.int .i64 32768), (.int .i64 0), .nils, .nils, (.int .i64 0)]), (.cells 383 [(.int .i64 32768), (.int .i64 0), (.slice 558 0 24 24 1), (.slice 562 0 1 1 2), (.int .i64 0)]), true⟩]
  v := (.tuple [])
  n1 := 563
  new := [(558, (.cells 10 [(.int .u8 77), (.int .u8 83), (.int .u8 72), (.int .u8 124), (.int .u8 94), (.int .u8 126), (.int .u8 92), (.int .u8 38), (.int .u8 124), (.int .u8 124), (.int .u8 124), (.int .u8 124), (.int .u8 124), (.int .u8 124), (.int .u8 124), (.int .u8 65), (.int .u8 68), (.int .u8 84), (.int .u8 94), (.int .u8 65), (.int .u8 48), (.int .u8 49), (.int .u8 124), (.int .u8 55)])),
    (562, (.cells 392 [(.str [77, 83, 72, 124, 94, 126, 92, 38, 124, 124, 124, 124, 124, 124, 124, 65, 68, 84, 94, 65, 48, 49, 124, 55]), (.int .i64 0)]))]
noncomputable def told5 : Rk.Told := told0
set_option maxRecDepth 1000000 in
theorem memo5_ok : memo5.check (call Tryz.prog told5 (dcall Tryz.prog 100000) 100000 300 memo5.f memo5.args memo5.start) = true := by kernel_rfl
theorem told_m5 : ToldT Tryz.prog memo5.f (oMemo memo5) := told_memo plain_ mixed_ told0_ok 100000 300 memo5 memo5_ok
/-- One call, reckoned by itself: caduceus/token.Parse. -/
def memo6 : Memo where
  f := 120
  args := [(.str [77, 83, 72, 124, 94, 126, 92, 38, 124, 124, 124, 124, 124, 124, 124, 65, 68, 84, 94, 65, 48, 49, 124, 55])]
  n0 := 582
  old := []
  v := (.tuple [(.agg [(.int .u8 124), (.int .u8 94), (.int .u8 126), (.int .u8 92), (.int .u8 38), (.slice 877 0 1 1 2)]), (.int .i64 0)])
  n1 := 878
  new := [(784, (.cells 18 [(.str [124])])),
    (786, (.cells 108 [(.slice 784 0 1 1 1)])),
    (788, (.cells 636 [(.slice 786 0 1 1 1)])),
    (793, (.cells 18 [(.str [94, 126, 92, 38])])),
    (795, (.cells 108 [(.slice 793 0 1 1 1)])),
    (797, (.cells 636 [(.slice 795 0 1 1 1)])),
    (802, (.cells 18 [(.str [])])),
    (804, (.cells 108 [(.slice 802 0 0 1 1)])),
    (806, (.cells 636 [(.slice 804 0 0 1 1)])),
    (811, (.cells 18 [(.str [])])),
    (813, (.cells 108 [(.slice 811 0 0 1 1)])),
    (815, (.cells 636 [(.slice 813 0 0 1 1)])),
    (820, (.cells 18 [(.str [])])),
    (822, (.cells 108 [(.slice 820 0 0 1 1)])),
    (824, (.cells 636 [(.slice 822 0 0 1 1)])),
    (829, (.cells 18 [(.str [])])),
    (831, (.cells 108 [(.slice 829 0 0 1 1)])),
    (833, (.cells 636 [(.slice 831 0 0 1 1)])),
    (838, (.cells 18 [(.str [])])),
    (840, (.cells 108 [(.slice 838 0 0 1 1)])),
    (842, (.cells 636 [(.slice 840 0 0 1 1)])),
    (847, (.cells 18 [(.str [])])),
    (849, (.cells 108 [(.slice 847 0 0 1 1)])),
    (851, (.cells 636 [(.slice 849 0 0 1 1)])),
    (856, (.cells 18 [(.str [65, 68, 84])])),
    (860, (.cells 18 [(.str [65, 48, 49])])),
    (862, (.cells 108 [(.slice 856 0 1 1 1), (.slice 860 0 1 1 1)])),
    (864, (.cells 636 [(.slice 862 0 2 2 1)])),
    (869, (.cells 18 [(.str [55])])),
    (871, (.cells 108 [(.slice 869 0 1 1 1)])),
    (873, (.cells 636 [(.slice 871 0 1 1 1)])),
    (875, (.cells 648 [(.slice 788 0 1 1 1), (.slice 797 0 1 1 1), (.slice 806 0 0 1 1), (.slice 815 0 0 1 1), (.slice 824 0 0 1 1), (.slice 833 0 0 1 1), (.slice 842 0 0 1 1), (.slice 851 0 0 1 1), (.slice 864 0 1 1 1), (.slice 873 0 1 1 1)])),
    (877, (.cells 646 [(.str [77, 83, 72]), (.slice 875 0 10 10 1)]))]
noncomputable def told6 : Rk.Told := told0
set_option maxRecDepth 1000000 in
theorem memo6_ok : memo6.check (call Tryz.prog told6 (dcall Tryz.prog 100000) 100000 300 memo6.f memo6.args memo6.start) = true := by kernel_rfl
theorem told_m6 : ToldT Tryz.prog memo6.f (oMemo memo6) := told_memo plain_ mixed_ told0_ok 100000 300 memo6 memo6_ok
end Go.Proofs.YtceafmknfkaedaaGreatDoor
