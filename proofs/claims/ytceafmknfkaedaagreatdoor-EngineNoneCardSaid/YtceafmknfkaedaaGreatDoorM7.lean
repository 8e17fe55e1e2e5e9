/- Calls, each reckoned by itself out of the blocks that it touches. -/
import Derived.Test.YtceafmknfkaedaaGreatDoorTold
namespace Go.Proofs.YtceafmknfkaedaaGreatDoor
open Go Go.Proofs Go.Proofs.YtceafmknfkaedaaGreatDoor.Rk
set_option linter.unusedVariables false
/-- One call, reckoned by itself: caduceus/path.Set. -/
def memo13 : Memo where
  f := 505
  args := [(.agg [(.int .u8 124), (.int .u8 94), (.int .u8 126), (.int .u8 92), (.int .u8 38), (.slice 1933 0 1 1 2)]), (.agg [(.str [77, 83, 72]), (.int .i64 1), (.int .i64 10), (.int .i64 1), (.int .i64 1), (.int .i64 1)]), (.str [49])]
  n0 := 1935
  old := [⟨1925, (.cells 18 [(.str [65, 48, 49])]), (.cells 18 [(.str [65, 48, 49])]), false⟩,
    ⟨1927, (.cells 108 [(.slice 1921 0 1 1 1), (.slice 1925 0 1 1 1)]), (.cells 108 [(.slice 1921 0 1 1 1), (.slice 1925 0 1 1 1)]), false⟩,
    ⟨1921, (.cells 18 [(.str [65, 67, 75])]), (.cells 18 [(.str [65, 67, 75])]), false⟩,
    ⟨1929, (.cells 636 [(.slice 1927 0 2 2 1)]), (.cells 636 [(.slice 1927 0 2 2 1)]), false⟩,
    ⟨1909, (.cells 18 [(.str [50, 48, 48, 48, 48, 49, 48, 49, 48, 48, 48, 48, 48, 48])]), (.cells 18 [(.str [50, 48, 48, 48, 48, 49, 48, 49, 48, 48, 48, 48, 48, 48])]), false⟩,
    ⟨1911, (.cells 108 [(.slice 1909 0 1 1 1)]), (.cells 108 [(.slice 1909 0 1 1 1)]), false⟩,
    ⟨1913, (.cells 636 [(.slice 1911 0 1 1 1)]), (.cells 636 [(.slice 1911 0 1 1 1)]), false⟩,
    ⟨1888, (.cells 18 [(.str [94, 126, 92, 38])]), (.cells 18 [(.str [94, 126, 92, 38])]), false⟩,
    ⟨1890, (.cells 108 [(.slice 1888 0 1 1 1)]), (.cells 108 [(.slice 1888 0 1 1 1)]), false⟩,
    ⟨1892, (.cells 636 [(.slice 1890 0 1 1 1)]), (.cells 636 [(.slice 1890 0 1 1 1)]), false⟩,
    ⟨1879, (.cells 18 [(.str [124])]), (.cells 18 [(.str [124])]), false⟩,
    ⟨1881, (.cells 108 [(.slice 1879 0 1 1 1)]), (.cells 108 [(.slice 1879 0 1 1 1)]), false⟩,
    ⟨1883, (.cells 636 [(.slice 1881 0 1 1 1)]), (.cells 636 [(.slice 1881 0 1 1 1)]), false⟩,
    ⟨1931, (.cells 648 [(.slice 1883 0 1 1 1), (.slice 1892 0 1 1 1), .nils, .nils, .nils, .nils, (.slice 1913 0 1 1 1), .nils, (.slice 1929 0 1 1 1)]), (.cells 648 [(.slice 1883 0 1 1 1), (.slice 1892 0 1 1 1), .nils, .nils, .nils, .nils, (.slice 1913 0 1 1 1), .nils, (.slice 1929 0 1 1 1)]), false⟩,
    ⟨1933, (.cells 646 [(.str [77, 83, 72]), (.slice 1931 0 9 9 1)]), (.cells 646 [(.str [77, 83, 72]), (.slice 1931 0 9 9 1)]), false⟩]
  v := (.tuple [(.agg [(.int .u8 124), (.int .u8 94), (.int .u8 126), (.int .u8 92), (.int .u8 38), (.slice 2048 0 1 1 2)]), (.int .i64 0)])
  n1 := 2049
  new := [(1985, (.cells 18 [(.str [124])])),
    (1987, (.cells 108 [(.slice 1985 0 1 1 1)])),
    (1989, (.cells 636 [(.slice 1987 0 1 1 1)])),
    (1994, (.cells 18 [(.str [94, 126, 92, 38])])),
    (1996, (.cells 108 [(.slice 1994 0 1 1 1)])),
    (1998, (.cells 636 [(.slice 1996 0 1 1 1)])),
    (2015, (.cells 18 [(.str [50, 48, 48, 48, 48, 49, 48, 49, 48, 48, 48, 48, 48, 48])])),
    (2017, (.cells 108 [(.slice 2015 0 1 1 1)])),
    (2019, (.cells 636 [(.slice 2017 0 1 1 1)])),
    (2027, (.cells 18 [(.str [65, 67, 75])])),
    (2031, (.cells 18 [(.str [65, 48, 49])])),
    (2033, (.cells 108 [(.slice 2027 0 1 1 1), (.slice 2031 0 1 1 1)])),
    (2035, (.cells 636 [(.slice 2033 0 2 2 1)])),
    (2040, (.cells 18 [(.str [49])])),
    (2042, (.cells 108 [(.slice 2040 0 1 1 1)])),
    (2044, (.cells 636 [(.slice 2042 0 1 1 1)])),
    (2046, (.cells 648 [(.slice 1989 0 1 1 1), (.slice 1998 0 1 1 1), .nils, .nils, .nils, .nils, (.slice 2019 0 1 1 1), .nils, (.slice 2035 0 1 1 1), (.slice 2044 0 1 1 1)])),
    (2048, (.cells 646 [(.str [77, 83, 72]), (.slice 2046 0 10 10 1)]))]
noncomputable def told13 : Rk.Told := told0
set_option maxRecDepth 1000000 in
theorem memo13_ok : memo13.check (call Tryz.prog told13 (dcall Tryz.prog 100000) 100000 300 memo13.f memo13.args memo13.start) = true := by kernel_rfl
theorem told_m13 : ToldT Tryz.prog memo13.f (oMemo memo13) := told_memo plain_ mixed_ told0_ok 100000 300 memo13 memo13_ok
/-- One call, reckoned by itself: caduceus/path.Set. -/
def memo14 : Memo where
  f := 505
  args := [(.agg [(.int .u8 124), (.int .u8 94), (.int .u8 126), (.int .u8 92), (.int .u8 38), (.slice 2048 0 1 1 2)]), (.agg [(.str [77, 83, 72]), (.int .i64 1), (.int .i64 11), (.int .i64 1), (.int .i64 1), (.int .i64 1)]), (.str [80])]
  n0 := 2050
  old := [⟨2040, (.cells 18 [(.str [49])]), (.cells 18 [(.str [49])]), false⟩,
    ⟨2042, (.cells 108 [(.slice 2040 0 1 1 1)]), (.cells 108 [(.slice 2040 0 1 1 1)]), false⟩,
    ⟨2044, (.cells 636 [(.slice 2042 0 1 1 1)]), (.cells 636 [(.slice 2042 0 1 1 1)]), false⟩,
    ⟨2031, (.cells 18 [(.str [65, 48, 49])]), (.cells 18 [(.str [65, 48, 49])]), false⟩,
    ⟨2033, (.cells 108 [(.slice 2027 0 1 1 1), (.slice 2031 0 1 1 1)]), (.cells 108 [(.slice 2027 0 1 1 1), (.slice 2031 0 1 1 1)]), false⟩,
    ⟨2027, (.cells 18 [(.str [65, 67, 75])]), (.cells 18 [(.str [65, 67, 75])]), false⟩,
    ⟨2035, (.cells 636 [(.slice 2033 0 2 2 1)]), (.cells 636 [(.slice 2033 0 2 2 1)]), false⟩,
    ⟨2015, (.cells 18 [(.str [50, 48, 48, 48, 48, 49, 48, 49, 48, 48, 48, 48, 48, 48])]), (.cells 18 [(.str [50, 48, 48, 48, 48, 49, 48, 49, 48, 48, 48, 48, 48, 48])]), false⟩,
    ⟨2017, (.cells 108 [(.slice 2015 0 1 1 1)]), (.cells 108 [(.slice 2015 0 1 1 1)]), false⟩,
    ⟨2019, (.cells 636 [(.slice 2017 0 1 1 1)]), (.cells 636 [(.slice 2017 0 1 1 1)]), false⟩,
    ⟨1994, (.cells 18 [(.str [94, 126, 92, 38])]), (.cells 18 [(.str [94, 126, 92, 38])]), false⟩,
    ⟨1996, (.cells 108 [(.slice 1994 0 1 1 1)]), (.cells 108 [(.slice 1994 0 1 1 1)]), false⟩,
    ⟨1998, (.cells 636 [(.slice 1996 0 1 1 1)]), (.cells 636 [(.slice 1996 0 1 1 1)]), false⟩,
    ⟨1985, (.cells 18 [(.str [124])]), (.cells 18 [(.str [124])]), false⟩,
    ⟨1987, (.cells 108 [(.slice 1985 0 1 1 1)]), (.cells 108 [(.slice 1985 0 1 1 1)]), false⟩,
    ⟨1989, (.cells 636 [(.slice 1987 0 1 1 1)]), (.cells 636 [(.slice 1987 0 1 1 1)]), false⟩,
    ⟨2046, (.cells 648 [(.slice 1989 0 1 1 1), (.slice 1998 0 1 1 1), .nils, .nils, .nils, .nils, (.slice 2019 0 1 1 1), .nils, (.slice 2035 0 1 1 1), (.slice 2044 0 1 1 1)]), (.cells 648 [(.slice 1989 0 1 1 1), (.slice 1998 0 1 1 1), .nils, .nils, .nils, .nils, (.slice 2019 0 1 1 1), .nils, (.slice 2035 0 1 1 1), (.slice 2044 0 1 1 1)]), false⟩,
    ⟨2048, (.cells 646 [(.str [77, 83, 72]), (.slice 2046 0 10 10 1)]), (.cells 646 [(.str [77, 83, 72]), (.slice 2046 0 10 10 1)]), false⟩]
  v := (.tuple [(.agg [(.int .u8 124), (.int .u8 94), (.int .u8 126), (.int .u8 92), (.int .u8 38), (.slice 2172 0 1 1 2)]), (.int .i64 0)])
  n1 := 2173
  new := [(2100, (.cells 18 [(.str [124])])),
    (2102, (.cells 108 [(.slice 2100 0 1 1 1)])),
    (2104, (.cells 636 [(.slice 2102 0 1 1 1)])),
    (2109, (.cells 18 [(.str [94, 126, 92, 38])])),
    (2111, (.cells 108 [(.slice 2109 0 1 1 1)])),
    (2113, (.cells 636 [(.slice 2111 0 1 1 1)])),
    (2130, (.cells 18 [(.str [50, 48, 48, 48, 48, 49, 48, 49, 48, 48, 48, 48, 48, 48])])),
    (2132, (.cells 108 [(.slice 2130 0 1 1 1)])),
    (2134, (.cells 636 [(.slice 2132 0 1 1 1)])),
    (2142, (.cells 18 [(.str [65, 67, 75])])),
    (2146, (.cells 18 [(.str [65, 48, 49])])),
    (2148, (.cells 108 [(.slice 2142 0 1 1 1), (.slice 2146 0 1 1 1)])),
    (2150, (.cells 636 [(.slice 2148 0 2 2 1)])),
    (2155, (.cells 18 [(.str [49])])),
    (2157, (.cells 108 [(.slice 2155 0 1 1 1)])),
    (2159, (.cells 636 [(.slice 2157 0 1 1 1)])),
    (2164, (.cells 18 [(.str [80])])),
    (2166, (.cells 108 [(.slice 2164 0 1 1 1)])),
    (2168, (.cells 636 [(.slice 2166 0 1 1 1)])),
    (2170, (.cells 648 [(.slice 2104 0 1 1 1), (.slice 2113 0 1 1 1), .nils, .nils, .nils, .nils, (.slice 2134 0 1 1 1), .nils, (.slice 2150 0 1 1 1), (.slice 2159 0 1 1 1), (.slice 2168 0 1 1 1)])),
    (2172, (.cells 646 [(.str [77, 83, 72]), (.slice 2170 0 11 11 1)]))]
noncomputable def told14 : Rk.Told := told0
set_option maxRecDepth 1000000 in
theorem memo14_ok : memo14.check (call Tryz.prog told14 (dcall Tryz.prog 100000) 100000 300 memo14.f memo14.args memo14.start) = true := by kernel_rfl
theorem told_m14 : ToldT Tryz.prog memo14.f (oMemo memo14) := told_memo plain_ mixed_ told0_ok 100000 300 memo14 memo14_ok
end Go.Proofs.YtceafmknfkaedaaGreatDoor
