/- Calls, each reckoned by itself out of the blocks that it touches. -/
import Derived.Test.YtceafmknfkaedaaGreatDoorM4
import Derived.Test.YtceafmknfkaedaaGreatDoorM5
import Derived.Test.YtceafmknfkaedaaGreatDoorM6
import Derived.Test.YtceafmknfkaedaaGreatDoorM7
namespace Go.Proofs.YtceafmknfkaedaaGreatDoor
open Go Go.Proofs Go.Proofs.YtceafmknfkaedaaGreatDoor.Rk
set_option linter.unusedVariables false
/-- One call, reckoned by itself: caduceus/path.Set. -/
def memo15 : Memo where
  f := 505
  args := [(.agg [(.int .u8 124), (.int .u8 94), (.int .u8 126), (.int .u8 92), (.int .u8 38), (.slice 2172 0 1 1 2)]), (.agg [(.str [77, 83, 72]), (.int .i64 1), (.int .i64 12), (.int .i64 1), (.int .i64 1), (.int .i64 1)]), (.str [])]
  n0 := 2174
  old := [⟨2164, (.cells 18 [(.str [80])]), (.cells 18 [(.str [80])]), false⟩,
    ⟨2166, (.cells 108 [(.slice 2164 0 1 1 1)]), (.cells 108 [(.slice 2164 0 1 1 1)]), false⟩,
    ⟨2168, (.cells 636 [(.slice 2166 0 1 1 1)]), (.cells 636 [(.slice 2166 0 1 1 1)]), false⟩,
    ⟨2155, (.cells 18 [(.str [49])]), (.cells 18 [(.str [49])]), false⟩,
    ⟨2157, (.cells 108 [(.slice 2155 0 1 1 1)]), (.cells 108 [(.slice 2155 0 1 1 1)]), false⟩,
    ⟨2159, (.cells 636 [(.slice 2157 0 1 1 1)]), (.cells 636 [(.slice 2157 0 1 1 1)]), false⟩,
    ⟨2146, (.cells 18 [(.str [65, 48, 49])]), (.cells 18 [(.str [65, 48, 49])]), false⟩,
    ⟨2148, (.cells 108 [(.slice 2142 0 1 1 1), (.slice 2146 0 1 1 1)]), (.cells 108 [(.slice 2142 0 1 1 1), (.slice 2146 0 1 1 1)]), false⟩,
    ⟨2142, (.cells 18 [(.str [65, 67, 75])]), (.cells 18 [(.str [65, 67, 75])]), false⟩,
    ⟨2150, (.cells 636 [(.slice 2148 0 2 2 1)]), (.cells 636 [(.slice 2148 0 2 2 1)]), false⟩,
    ⟨2130, (.cells 18 [(.str [50, 48, 48, 48, 48, 49, 48, 49, 48, 48, 48, 48, 48, 48])]), (.cells 18 [(.str [50, 48, 48, 48, 48, 49, 48, 49, 48, 48, 48, 48, 48, 48])]), false⟩,
    ⟨2132, (.cells 108 [(.slice 2130 0 1 1 1)]), (.cells 108 [(.slice 2130 0 1 1 1)]), false⟩,
    ⟨2134, (.cells 636 [(.slice 2132 0 1 1 1)]), (.cells 636 [(.slice 2132 0 1 1 1)]), false⟩,
    ⟨2109, (.cells 18 [(.str [94, 126, 92, 38])]), (.cells 18 [(.str [94, 126, 92, 38])]), false⟩,
    ⟨2111, (.cells 108 [(.slice 2109 0 1 1 1)]), (.cells 108 [(.slice 2109 0 1 1 1)]), false⟩,
    ⟨2113, (.cells 636 [(.slice 2111 0 1 1 1)]), (.cells 636 [(.slice 2111 0 1 1 1)]), false⟩,
    ⟨2100, (.cells 18 [(.str [124])]), (.cells 18 [(.str [124])]), false⟩,
    ⟨2102, (.cells 108 [(.slice 2100 0 1 1 1)]), (.cells 108 [(.slice 2100 0 1 1 1)]), false⟩,
    ⟨2104, (.cells 636 [(.slice 2102 0 1 1 1)]), (.cells 636 [(.slice 2102 0 1 1 1)]), false⟩,
    ⟨2170, (.cells 648 [(.slice 2104 0 1 1 1), (.slice 2113 0 1 1 1), .nils, .nils, .nils, .nils, (.slice 2134 0 1 1 1), .nils, (.slice 2150 0 1 1 1), (.slice 2159 0 1 1 1), (.slice 2168 0 1 1 1)]), (.cells 648 [(.slice 2104 0 1 1 1), (.slice 2113 0 1 1 1), .nils, .nils, .nils, .nils, (.slice 2134 0 1 1 1), .nils, (.slice 2150 0 1 1 1), (.slice 2159 0 1 1 1), (.slice 2168 0 1 1 1)]), false⟩,
    ⟨2172, (.cells 646 [(.str [77, 83, 72]), (.slice 2170 0 11 11 1)]), (.cells 646 [(.str [77, 83, 72]), (.slice 2170 0 11 11 1)]), false⟩]
  v := (.tuple [(.agg [(.int .u8 124), (.int .u8 94), (.int .u8 126), (.int .u8 92), (.int .u8 38), (.slice 2305 0 1 1 2)]), (.int .i64 0)])
  n1 := 2306
  new := [(2224, (.cells 18 [(.str [124])])),
    (2226, (.cells 108 [(.slice 2224 0 1 1 1)])),
    (2228, (.cells 636 [(.slice 2226 0 1 1 1)])),
    (2233, (.cells 18 [(.str [94, 126, 92, 38])])),
    (2235, (.cells 108 [(.slice 2233 0 1 1 1)])),
    (2237, (.cells 636 [(.slice 2235 0 1 1 1)])),
    (2254, (.cells 18 [(.str [50, 48, 48, 48, 48, 49, 48, 49, 48, 48, 48, 48, 48, 48])])),
    (2256, (.cells 108 [(.slice 2254 0 1 1 1)])),
    (2258, (.cells 636 [(.slice 2256 0 1 1 1)])),
    (2266, (.cells 18 [(.str [65, 67, 75])])),
    (2270, (.cells 18 [(.str [65, 48, 49])])),
    (2272, (.cells 108 [(.slice 2266 0 1 1 1), (.slice 2270 0 1 1 1)])),
    (2274, (.cells 636 [(.slice 2272 0 2 2 1)])),
    (2279, (.cells 18 [(.str [49])])),
    (2281, (.cells 108 [(.slice 2279 0 1 1 1)])),
    (2283, (.cells 636 [(.slice 2281 0 1 1 1)])),
    (2288, (.cells 18 [(.str [80])])),
    (2290, (.cells 108 [(.slice 2288 0 1 1 1)])),
    (2292, (.cells 636 [(.slice 2290 0 1 1 1)])),
    (2297, (.cells 18 [(.str [])])),
    (2299, (.cells 108 [(.slice 2297 0 0 1 1)])),
    (2301, (.cells 636 [(.slice 2299 0 0 1 1)])),
    (2303, (.cells 648 [(.slice 2228 0 1 1 1), (.slice 2237 0 1 1 1), .nils, .nils, .nils, .nils, (.slice 2258 0 1 1 1), .nils, (.slice 2274 0 1 1 1), (.slice 2283 0 1 1 1), (.slice 2292 0 1 1 1), (.slice 2301 0 0 1 1)])),
    (2305, (.cells 646 [(.str [77, 83, 72]), (.slice 2303 0 11 12 1)]))]
noncomputable def told15 : Rk.Told := told0
set_option maxRecDepth 1000000 in
theorem memo15_ok : memo15.check (call Tryz.prog told15 (dcall Tryz.prog 100000) 100000 300 memo15.f memo15.args memo15.start) = true := by kernel_rfl
theorem told_m15 : ToldT Tryz.prog memo15.f (oMemo memo15) := told_memo plain_ mixed_ told0_ok 100000 300 memo15 memo15_ok
/-- One call, reckoned by itself: caduceus/head.Make. -/
def memo16 : Memo where
  f := 471
  args := [(.agg [(.int .u8 124), (.int .u8 94), (.int .u8 126), (.int .u8 92), (.int .u8 38)]), (.agg [(.str []), (.str [])]), (.agg [(.str []), (.str [])]), (.str [65, 67, 75]), (.str [65, 48, 49]), (.str [49]), (.str []), (.str [50, 48, 48, 48, 48, 49, 48, 49, 48, 48, 48, 48, 48, 48])]
  n0 := 1199
  old := []
  v := (.tuple [(.agg [(.int .u8 124), (.int .u8 94), (.int .u8 126), (.int .u8 92), (.int .u8 38), (.slice 2305 0 1 1 2)]), (.int .i64 0)])
  n1 := 2306
  new := [(2224, (.cells 18 [(.str [124])])),
    (2226, (.cells 108 [(.slice 2224 0 1 1 1)])),
    (2228, (.cells 636 [(.slice 2226 0 1 1 1)])),
    (2233, (.cells 18 [(.str [94, 126, 92, 38])])),
    (2235, (.cells 108 [(.slice 2233 0 1 1 1)])),
    (2237, (.cells 636 [(.slice 2235 0 1 1 1)])),
    (2254, (.cells 18 [(.str [50, 48, 48, 48, 48, 49, 48, 49, 48, 48, 48, 48, 48, 48])])),
    (2256, (.cells 108 [(.slice 2254 0 1 1 1)])),
    (2258, (.cells 636 [(.slice 2256 0 1 1 1)])),
    (2266, (.cells 18 [(.str [65, 67, 75])])),
    (2270, (.cells 18 [(.str [65, 48, 49])])),
    (2272, (.cells 108 [(.slice 2266 0 1 1 1), (.slice 2270 0 1 1 1)])),
    (2274, (.cells 636 [(.slice 2272 0 2 2 1)])),
    (2279, (.cells 18 [(.str [49])])),
    (2281, (.cells 108 [(.slice 2279 0 1 1 1)])),
    (2283, (.cells 636 [(.slice 2281 0 1 1 1)])),
    (2288, (.cells 18 [(.str [80])])),
    (2290, (.cells 108 [(.slice 2288 0 1 1 1)])),
    (2292, (.cells 636 [(.slice 2290 0 1 1 1)])),
    (2297, (.cells 18 [(.str [])])),
    (2299, (.cells 108 [(.slice 2297 0 0 1 1)])),
    (2301, (.cells 636 [(.slice 2299 0 0 1 1)])),
    (2303, (.cells 648 [(.slice 2228 0 1 1 1), (.slice 2237 0 1 1 1), .nils, .nils, .nils, .nils, (.slice 2258 0 1 1 1), .nils, (.slice 2274 0 1 1 1), (.slice 2283 0 1 1 1), (.slice 2292 0 1 1 1), (.slice 2301 0 0 1 1)])),
    (2305, (.cells 646 [(.str [77, 83, 72]), (.slice 2303 0 11 12 1)]))]
noncomputable def told16 : Rk.Told := (addT (addT (addT (addT (addT (addT (addT (addT told0 memo8.f (oMemo memo8)) memo9.f (oMemo memo9)) memo10.f (oMemo memo10)) memo11.f (oMemo memo11)) memo12.f (oMemo memo12)) memo13.f (oMemo memo13)) memo14.f (oMemo memo14)) memo15.f (oMemo memo15))
set_option maxRecDepth 1000000 in
theorem memo16_ok : memo16.check (call Tryz.prog told16 (dcall Tryz.prog 100000) 100000 300 memo16.f memo16.args memo16.start) = true := by kernel_rfl
theorem told_m16 : ToldT Tryz.prog memo16.f (oMemo memo16) := told_memo plain_ mixed_ ((((((((told0_ok.add told_m8).add told_m9).add told_m10).add told_m11).add told_m12).add told_m13).add told_m14).add told_m15) 100000 300 memo16 memo16_ok
end Go.Proofs.YtceafmknfkaedaaGreatDoor
