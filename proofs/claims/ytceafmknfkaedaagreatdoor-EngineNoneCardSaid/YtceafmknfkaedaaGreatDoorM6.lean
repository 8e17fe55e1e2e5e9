/- Calls, each reckoned by itself out of the blocks that it touches. -/
import Derived.Test.YtceafmknfkaedaaGreatDoorTold
namespace Go.Proofs.YtceafmknfkaedaaGreatDoor
open Go Go.Proofs Go.Proofs.YtceafmknfkaedaaGreatDoor.Rk
set_option linter.unusedVariables false
/-- One call, reckoned by itself: caduceus/path.Set. -/
def memo11 : Memo where
  f := 505
  args := [(.agg [(.int .u8 124), (.int .u8 94), (.int .u8 126), (.int .u8 92), (.int .u8 38), (.slice 1723 0 1 1 2)]), (.agg [(.str [77, 83, 72]), (.int .i64 1), (.int .i64 9), (.int .i64 1), (.int .i64 1), (.int .i64 1)]), (.str [65, 67, 75])]
  n0 := 1725
  old := [⟨1715, (.cells 18 [(.str [50, 48, 48, 48, 48, 49, 48, 49, 48, 48, 48, 48, 48, 48])]), (.cells 18 [(.str [50, 48, 48, 48, 48, 49, 48, 49, 48, 48, 48, 48, 48, 48])]), false⟩,
    ⟨1717, (.cells 108 [(.slice 1715 0 1 1 1)]), (.cells 108 [(.slice 1715 0 1 1 1)]), false⟩,
    ⟨1719, (.cells 636 [(.slice 1717 0 1 1 1)]), (.cells 636 [(.slice 1717 0 1 1 1)]), false⟩,
    ⟨1694, (.cells 18 [(.str [94, 126, 92, 38])]), (.cells 18 [(.str [94, 126, 92, 38])]), false⟩,
    ⟨1696, (.cells 108 [(.slice 1694 0 1 1 1)]), (.cells 108 [(.slice 1694 0 1 1 1)]), false⟩,
    ⟨1698, (.cells 636 [(.slice 1696 0 1 1 1)]), (.cells 636 [(.slice 1696 0 1 1 1)]), false⟩,
    ⟨1685, (.cells 18 [(.str [124])]), (.cells 18 [(.str [124])]), false⟩,
    ⟨1687, (.cells 108 [(.slice 1685 0 1 1 1)]), (.cells 108 [(.slice 1685 0 1 1 1)]), false⟩,
    ⟨1689, (.cells 636 [(.slice 1687 0 1 1 1)]), (.cells 636 [(.slice 1687 0 1 1 1)]), false⟩,
    ⟨1721, (.cells 648 [(.slice 1689 0 1 1 1), (.slice 1698 0 1 1 1), .nils, .nils, .nils, .nils, (.slice 1719 0 1 1 1)]), (.cells 648 [(.slice 1689 0 1 1 1), (.slice 1698 0 1 1 1), .nils, .nils, .nils, .nils, (.slice 1719 0 1 1 1)]), false⟩,
    ⟨1723, (.cells 646 [(.str [77, 83, 72]), (.slice 1721 0 7 7 1)]), (.cells 646 [(.str [77, 83, 72]), (.slice 1721 0 7 7 1)]), false⟩]
  v := (.tuple [(.agg [(.int .u8 124), (.int .u8 94), (.int .u8 126), (.int .u8 92), (.int .u8 38), (.slice 1827 0 1 1 2)]), (.int .i64 0)])
  n1 := 1828
  new := [(1777, (.cells 18 [(.str [124])])),
    (1779, (.cells 108 [(.slice 1777 0 1 1 1)])),
    (1781, (.cells 636 [(.slice 1779 0 1 1 1)])),
    (1786, (.cells 18 [(.str [94, 126, 92, 38])])),
    (1788, (.cells 108 [(.slice 1786 0 1 1 1)])),
    (1790, (.cells 636 [(.slice 1788 0 1 1 1)])),
    (1807, (.cells 18 [(.str [50, 48, 48, 48, 48, 49, 48, 49, 48, 48, 48, 48, 48, 48])])),
    (1809, (.cells 108 [(.slice 1807 0 1 1 1)])),
    (1811, (.cells 636 [(.slice 1809 0 1 1 1)])),
    (1819, (.cells 18 [(.str [65, 67, 75])])),
    (1821, (.cells 108 [(.slice 1819 0 1 1 1)])),
    (1823, (.cells 636 [(.slice 1821 0 1 1 1)])),
    (1825, (.cells 648 [(.slice 1781 0 1 1 1), (.slice 1790 0 1 1 1), .nils, .nils, .nils, .nils, (.slice 1811 0 1 1 1), .nils, (.slice 1823 0 1 1 1)])),
    (1827, (.cells 646 [(.str [77, 83, 72]), (.slice 1825 0 9 9 1)]))]
noncomputable def told11 : Rk.Told := told0
set_option maxRecDepth 1000000 in
theorem memo11_ok : memo11.check (call Tryz.prog told11 (dcall Tryz.prog 100000) 100000 300 memo11.f memo11.args memo11.start) = true := by kernel_rfl
theorem told_m11 : ToldT Tryz.prog memo11.f (oMemo memo11) := told_memo plain_ mixed_ told0_ok 100000 300 memo11 memo11_ok
/-- One call, reckoned by itself: caduceus/path.Set. -/
def memo12 : Memo where
  f := 505
  args := [(.agg [(.int .u8 124), (.int .u8 94), (.int .u8 126), (.int .u8 92), (.int .u8 38), (.slice 1827 0 1 1 2)]), (.agg [(.str [77, 83, 72]), (.int .i64 1), (.int .i64 9), (.int .i64 1), (.int .i64 2), (.int .i64 1)]), (.str [65, 48, 49])]
  n0 := 1829
  old := [⟨1819, (.cells 18 [(.str [65, 67, 75])]), (.cells 18 [(.str [65, 67, 75])]), false⟩,
    ⟨1807, (.cells 18 [(.str [50, 48, 48, 48, 48, 49, 48, 49, 48, 48, 48, 48, 48, 48])]), (.cells 18 [(.str [50, 48, 48, 48, 48, 49, 48, 49, 48, 48, 48, 48, 48, 48])]), false⟩,
    ⟨1809, (.cells 108 [(.slice 1807 0 1 1 1)]), (.cells 108 [(.slice 1807 0 1 1 1)]), false⟩,
    ⟨1811, (.cells 636 [(.slice 1809 0 1 1 1)]), (.cells 636 [(.slice 1809 0 1 1 1)]), false⟩,
    ⟨1786, (.cells 18 [(.str [94, 126, 92, 38])]), (.cells 18 [(.str [94, 126, 92, 38])]), false⟩,
    ⟨1788, (.cells 108 [(.slice 1786 0 1 1 1)]), (.cells 108 [(.slice 1786 0 1 1 1)]), false⟩,
    ⟨1790, (.cells 636 [(.slice 1788 0 1 1 1)]), (.cells 636 [(.slice 1788 0 1 1 1)]), false⟩,
    ⟨1777, (.cells 18 [(.str [124])]), (.cells 18 [(.str [124])]), false⟩,
    ⟨1779, (.cells 108 [(.slice 1777 0 1 1 1)]), (.cells 108 [(.slice 1777 0 1 1 1)]), false⟩,
    ⟨1781, (.cells 636 [(.slice 1779 0 1 1 1)]), (.cells 636 [(.slice 1779 0 1 1 1)]), false⟩,
    ⟨1821, (.cells 108 [(.slice 1819 0 1 1 1)]), (.cells 108 [(.slice 1819 0 1 1 1)]), false⟩,
    ⟨1823, (.cells 636 [(.slice 1821 0 1 1 1)]), (.cells 636 [(.slice 1821 0 1 1 1)]), false⟩,
    ⟨1825, (.cells 648 [(.slice 1781 0 1 1 1), (.slice 1790 0 1 1 1), .nils, .nils, .nils, .nils, (.slice 1811 0 1 1 1), .nils, (.slice 1823 0 1 1 1)]), (.cells 648 [(.slice 1781 0 1 1 1), (.slice 1790 0 1 1 1), .nils, .nils, .nils, .nils, (.slice 1811 0 1 1 1), .nils, (.slice 1823 0 1 1 1)]), false⟩,
    ⟨1827, (.cells 646 [(.str [77, 83, 72]), (.slice 1825 0 9 9 1)]), (.cells 646 [(.str [77, 83, 72]), (.slice 1825 0 9 9 1)]), false⟩]
  v := (.tuple [(.agg [(.int .u8 124), (.int .u8 94), (.int .u8 126), (.int .u8 92), (.int .u8 38), (.slice 1933 0 1 1 2)]), (.int .i64 0)])
  n1 := 1934
  new := [(1879, (.cells 18 [(.str [124])])),
    (1881, (.cells 108 [(.slice 1879 0 1 1 1)])),
    (1883, (.cells 636 [(.slice 1881 0 1 1 1)])),
    (1888, (.cells 18 [(.str [94, 126, 92, 38])])),
    (1890, (.cells 108 [(.slice 1888 0 1 1 1)])),
    (1892, (.cells 636 [(.slice 1890 0 1 1 1)])),
    (1909, (.cells 18 [(.str [50, 48, 48, 48, 48, 49, 48, 49, 48, 48, 48, 48, 48, 48])])),
    (1911, (.cells 108 [(.slice 1909 0 1 1 1)])),
    (1913, (.cells 636 [(.slice 1911 0 1 1 1)])),
    (1921, (.cells 18 [(.str [65, 67, 75])])),
    (1925, (.cells 18 [(.str [65, 48, 49])])),
    (1927, (.cells 108 [(.slice 1921 0 1 1 1), (.slice 1925 0 1 1 1)])),
    (1929, (.cells 636 [(.slice 1927 0 2 2 1)])),
    (1931, (.cells 648 [(.slice 1883 0 1 1 1), (.slice 1892 0 1 1 1), .nils, .nils, .nils, .nils, (.slice 1913 0 1 1 1), .nils, (.slice 1929 0 1 1 1)])),
    (1933, (.cells 646 [(.str [77, 83, 72]), (.slice 1931 0 9 9 1)]))]
noncomputable def told12 : Rk.Told := told0
set_option maxRecDepth 1000000 in
theorem memo12_ok : memo12.check (call Tryz.prog told12 (dcall Tryz.prog 100000) 100000 300 memo12.f memo12.args memo12.start) = true := by kernel_rfl
theorem told_m12 : ToldT Tryz.prog memo12.f (oMemo memo12) := told_memo plain_ mixed_ told0_ok 100000 300 memo12 memo12_ok
end Go.Proofs.YtceafmknfkaedaaGreatDoor
