/- Calls, each reckoned by itself out of the blocks that it touches. -/
import Derived.Test.YtceafmknfkaedaaGreatDoorTold
namespace Go.Proofs.YtceafmknfkaedaaGreatDoor
open Go Go.Proofs Go.Proofs.YtceafmknfkaedaaGreatDoor.Rk
set_option linter.unusedVariables false
/-- One call, reckoned by itself: caduceus/path.Set. -/
def memo9 : Memo where
  f := 505
  args := [(.agg [(.int .u8 124), (.int .u8 94), (.int .u8 126), (.int .u8 92), (.int .u8 38), (.slice 1532 0 1 1 2)]), (.agg [(.str [77, 83, 72]), (.int .i64 1), (.int .i64 6), (.int .i64 1), (.int .i64 1), (.int .i64 1)]), (.str [])]
  n0 := 1534
  old := [⟨1509, (.cells 18 [(.str [94, 126, 92, 38])]), (.cells 18 [(.str [94, 126, 92, 38])]), false⟩,
    ⟨1511, (.cells 108 [(.slice 1509 0 1 1 1)]), (.cells 108 [(.slice 1509 0 1 1 1)]), false⟩,
    ⟨1513, (.cells 636 [(.slice 1511 0 1 1 1)]), (.cells 636 [(.slice 1511 0 1 1 1)]), false⟩,
    ⟨1500, (.cells 18 [(.str [124])]), (.cells 18 [(.str [124])]), false⟩,
    ⟨1502, (.cells 108 [(.slice 1500 0 1 1 1)]), (.cells 108 [(.slice 1500 0 1 1 1)]), false⟩,
    ⟨1504, (.cells 636 [(.slice 1502 0 1 1 1)]), (.cells 636 [(.slice 1502 0 1 1 1)]), false⟩,
    ⟨1530, (.cells 648 [(.slice 1504 0 1 1 1), (.slice 1513 0 1 1 1), .nils, .nils, (.slice 1528 0 0 1 1)]), (.cells 648 [(.slice 1504 0 1 1 1), (.slice 1513 0 1 1 1), .nils, .nils, (.slice 1528 0 0 1 1)]), false⟩,
    ⟨1532, (.cells 646 [(.str [77, 83, 72]), (.slice 1530 0 2 5 1)]), (.cells 646 [(.str [77, 83, 72]), (.slice 1530 0 2 5 1)]), false⟩]
  v := (.tuple [(.agg [(.int .u8 124), (.int .u8 94), (.int .u8 126), (.int .u8 92), (.int .u8 38), (.slice 1625 0 1 1 2)]), (.int .i64 0)])
  n1 := 1626
  new := [(1590, (.cells 18 [(.str [124])])),
    (1592, (.cells 108 [(.slice 1590 0 1 1 1)])),
    (1594, (.cells 636 [(.slice 1592 0 1 1 1)])),
    (1599, (.cells 18 [(.str [94, 126, 92, 38])])),
    (1601, (.cells 108 [(.slice 1599 0 1 1 1)])),
    (1603, (.cells 636 [(.slice 1601 0 1 1 1)])),
    (1617, (.cells 18 [(.str [])])),
    (1619, (.cells 108 [(.slice 1617 0 0 1 1)])),
    (1621, (.cells 636 [(.slice 1619 0 0 1 1)])),
    (1623, (.cells 648 [(.slice 1594 0 1 1 1), (.slice 1603 0 1 1 1), .nils, .nils, .nils, (.slice 1621 0 0 1 1)])),
    (1625, (.cells 646 [(.str [77, 83, 72]), (.slice 1623 0 2 6 1)]))]
noncomputable def told9 : Rk.Told := told0
set_option maxRecDepth 1000000 in
theorem memo9_ok : memo9.check (call Tryz.prog told9 (dcall Tryz.prog 100000) 100000 300 memo9.f memo9.args memo9.start) = true := by kernel_rfl
theorem told_m9 : ToldT Tryz.prog memo9.f (oMemo memo9) := told_memo plain_ mixed_ told0_ok 100000 300 memo9 memo9_ok
/-- One call, reckoned by itself: caduceus/path.Set. -/
def memo10 : Memo where
  f := 505
  args := [(.agg [(.int .u8 124), (.int .u8 94), (.int .u8 126), (.int .u8 92), (.int .u8 38), (.slice 1625 0 1 1 2)]), (.agg [(.str [77, 83, 72]), (.int .i64 1), (.int .i64 7), (.int .i64 1), (.int .i64 1), (.int .i64 1)]), (.str [50, 48, 48, 48, 48, 49, 48, 49, 48, 48, 48, 48, 48, 48])]
  n0 := 1627
  old := [⟨1599, (.cells 18 [(.str [94, 126, 92, 38])]), (.cells 18 [(.str [94, 126, 92, 38])]), false⟩,
    ⟨1601, (.cells 108 [(.slice 1599 0 1 1 1)]), (.cells 108 [(.slice 1599 0 1 1 1)]), false⟩,
    ⟨1603, (.cells 636 [(.slice 1601 0 1 1 1)]), (.cells 636 [(.slice 1601 0 1 1 1)]), false⟩,
    ⟨1590, (.cells 18 [(.str [124])]), (.cells 18 [(.str [124])]), false⟩,
    ⟨1592, (.cells 108 [(.slice 1590 0 1 1 1)]), (.cells 108 [(.slice 1590 0 1 1 1)]), false⟩,
    ⟨1594, (.cells 636 [(.slice 1592 0 1 1 1)]), (.cells 636 [(.slice 1592 0 1 1 1)]), false⟩,
    ⟨1623, (.cells 648 [(.slice 1594 0 1 1 1), (.slice 1603 0 1 1 1), .nils, .nils, .nils, (.slice 1621 0 0 1 1)]), (.cells 648 [(.slice 1594 0 1 1 1), (.slice 1603 0 1 1 1), .nils, .nils, .nils, (.slice 1621 0 0 1 1)]), false⟩,
    ⟨1625, (.cells 646 [(.str [77, 83, 72]), (.slice 1623 0 2 6 1)]), (.cells 646 [(.str [77, 83, 72]), (.slice 1623 0 2 6 1)]), false⟩]
  v := (.tuple [(.agg [(.int .u8 124), (.int .u8 94), (.int .u8 126), (.int .u8 92), (.int .u8 38), (.slice 1723 0 1 1 2)]), (.int .i64 0)])
  n1 := 1724
  new := [(1685, (.cells 18 [(.str [124])])),
    (1687, (.cells 108 [(.slice 1685 0 1 1 1)])),
    (1689, (.cells 636 [(.slice 1687 0 1 1 1)])),
    (1694, (.cells 18 [(.str [94, 126, 92, 38])])),
    (1696, (.cells 108 [(.slice 1694 0 1 1 1)])),
    (1698, (.cells 636 [(.slice 1696 0 1 1 1)])),
    (1715, (.cells 18 [(.str [50, 48, 48, 48, 48, 49, 48, 49, 48, 48, 48, 48, 48, 48])])),
    (1717, (.cells 108 [(.slice 1715 0 1 1 1)])),
    (1719, (.cells 636 [(.slice 1717 0 1 1 1)])),
    (1721, (.cells 648 [(.slice 1689 0 1 1 1), (.slice 1698 0 1 1 1), .nils, .nils, .nils, .nils, (.slice 1719 0 1 1 1)])),
    (1723, (.cells 646 [(.str [77, 83, 72]), (.slice 1721 0 7 7 1)]))]
noncomputable def told10 : Rk.Told := told0
set_option maxRecDepth 1000000 in
theorem memo10_ok : memo10.check (call Tryz.prog told10 (dcall Tryz.prog 100000) 100000 300 memo10.f memo10.args memo10.start) = true := by kernel_rfl
theorem told_m10 : ToldT Tryz.prog memo10.f (oMemo memo10) := told_memo plain_ mixed_ told0_ok 100000 300 memo10 memo10_ok
end Go.Proofs.YtceafmknfkaedaaGreatDoor
