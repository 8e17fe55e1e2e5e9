/- Calls, each reckoned by itself out of the blocks that it touches. -/
import Derived.Test.YtceafmknfkaedaaGreatDoorM8
namespace Go.Proofs.YtceafmknfkaedaaGreatDoor
open Go Go.Proofs Go.Proofs.YtceafmknfkaedaaGreatDoor.Rk
set_option linter.unusedVariables false
/-- One call, reckoned by itself: caduceus/ack.made. -/
def memo17 : Memo where
  f := 345
  args := [(.agg [(.int .u8 124), (.int .u8 94), (.int .u8 126), (.int .u8 92), (.int .u8 38), (.slice 877 0 1 1 2)]), (.str [65, 65]), (.str []), (.str [49]), (.str [50, 48, 48, 48, 48, 49, 48, 49, 48, 48, 48, 48, 48, 48])]
  n0 := 1114
  old := [⟨869, (.cells 18 [(.str [55])]), (.cells 18 [(.str [55])]), false⟩,
    ⟨871, (.cells 108 [(.slice 869 0 1 1 1)]), (.cells 108 [(.slice 869 0 1 1 1)]), false⟩,
    ⟨873, (.cells 636 [(.slice 871 0 1 1 1)]), (.cells 636 [(.slice 871 0 1 1 1)]), false⟩,
    ⟨875, (.cells 648 [(.slice 788 0 1 1 1), (.slice 797 0 1 1 1), (.slice 806 0 0 1 1), (.slice 815 0 0 1 1), (.slice 824 0 0 1 1), (.slice 833 0 0 1 1), (.slice 842 0 0 1 1), (.slice 851 0 0 1 1), (.slice 864 0 1 1 1), (.slice 873 0 1 1 1)]), (.cells 648 [(.slice 788 0 1 1 1), (.slice 797 0 1 1 1), (.slice 806 0 0 1 1), (.slice 815 0 0 1 1), (.slice 824 0 0 1 1), (.slice 833 0 0 1 1), (.slice 842 0 0 1 1), (.slice 851 0 0 1 1), (.slice 864 0 1 1 1), (.slice 873 0 1 1 1)]), false⟩,
    ⟨877, (.cells 646 [(.str [77, 83, 72]), (.slice 875 0 10 10 1)]), (.cells 646 [(.str [77, 83, 72]), (.slice 875 0 10 10 1)]), false⟩,
    ⟨860, (.cells 18 [(.str [65, 48, 49])]), (.cells 18 [(.str [65, 48, 49])]), false⟩,
    ⟨862, (.cells 108 [(.slice 856 0 1 1 1), (.slice 860 0 1 1 1)]), (.cells 108 [(.slice 856 0 1 1 1), (.slice 860 0 1 1 1)]), false⟩,
    ⟨864, (.cells 636 [(.slice 862 0 2 2 1)]), (.cells 636 [(.slice 862 0 2 2 1)]), false⟩,
    ⟨856, (.cells 18 [(.str [65, 68, 84])]), (.cells 18 [(.str [65, 68, 84])]), false⟩]
  v := (.tuple [(.agg [(.int .u8 124), (.int .u8 94), (.int .u8 126), (.int .u8 92), (.int .u8 38), (.slice 2448 0 2 2 2)]), (.int .i64 0)])
  n1 := 2449
  new := [(2346, (.cells 18 [(.str [124])])),
    (2348, (.cells 108 [(.slice 2346 0 1 1 1)])),
    (2350, (.cells 636 [(.slice 2348 0 1 1 1)])),
    (2355, (.cells 18 [(.str [94, 126, 92, 38])])),
    (2357, (.cells 108 [(.slice 2355 0 1 1 1)])),
    (2359, (.cells 636 [(.slice 2357 0 1 1 1)])),
    (2376, (.cells 18 [(.str [50, 48, 48, 48, 48, 49, 48, 49, 48, 48, 48, 48, 48, 48])])),
    (2378, (.cells 108 [(.slice 2376 0 1 1 1)])),
    (2380, (.cells 636 [(.slice 2378 0 1 1 1)])),
    (2388, (.cells 18 [(.str [65, 67, 75])])),
    (2392, (.cells 18 [(.str [65, 48, 49])])),
    (2394, (.cells 108 [(.slice 2388 0 1 1 1), (.slice 2392 0 1 1 1)])),
    (2396, (.cells 636 [(.slice 2394 0 2 2 1)])),
    (2401, (.cells 18 [(.str [49])])),
    (2403, (.cells 108 [(.slice 2401 0 1 1 1)])),
    (2405, (.cells 636 [(.slice 2403 0 1 1 1)])),
    (2410, (.cells 18 [(.str [80])])),
    (2412, (.cells 108 [(.slice 2410 0 1 1 1)])),
    (2414, (.cells 636 [(.slice 2412 0 1 1 1)])),
    (2416, (.cells 648 [(.slice 2350 0 1 1 1), (.slice 2359 0 1 1 1), .nils, .nils, .nils, .nils, (.slice 2380 0 1 1 1), .nils, (.slice 2396 0 1 1 1), (.slice 2405 0 1 1 1), (.slice 2414 0 1 1 1)])),
    (2422, (.cells 18 [(.str [65, 65])])),
    (2424, (.cells 108 [(.slice 2422 0 1 1 1)])),
    (2426, (.cells 636 [(.slice 2424 0 1 1 1)])),
    (2431, (.cells 18 [(.str [55])])),
    (2433, (.cells 108 [(.slice 2431 0 1 1 1)])),
    (2435, (.cells 636 [(.slice 2433 0 1 1 1)])),
    (2440, (.cells 18 [(.str [])])),
    (2442, (.cells 108 [(.slice 2440 0 0 1 1)])),
    (2444, (.cells 636 [(.slice 2442 0 0 1 1)])),
    (2446, (.cells 648 [(.slice 2426 0 1 1 1), (.slice 2435 0 1 1 1), (.slice 2444 0 0 1 1)])),
    (2448, (.cells 646 [(.str [77, 83, 72]), (.slice 2416 0 11 11 1), (.str [77, 83, 65]), (.slice 2446 0 2 3 1)]))]
noncomputable def told17 : Rk.Told := (addT told0 memo16.f (oMemo memo16))
set_option maxRecDepth 1000000 in
theorem memo17_ok : memo17.check (call Tryz.prog told17 (dcall Tryz.prog 100000) 100000 300 memo17.f memo17.args memo17.start) = true := by kernel_rfl
theorem told_m17 : ToldT Tryz.prog memo17.f (oMemo memo17) := told_memo plain_ mixed_ (told0_ok.add told_m16) 100000 300 memo17 memo17_ok
/-- One call, reckoned by itself: caduceus/source.printed. -/
def memo18 : Memo where
  f := 205
  args := [(.agg [(.int .u8 124), (.int .u8 94), (.int .u8 126), (.int .u8 92), (.int .u8 38), (.slice 2448 0 2 2 2)]), (.int .i64 0)]
  n0 := 2449
  old := [⟨2431, (.cells 18 [(.str [55])]), (.cells 18 [(.str [55])]), false⟩,
    ⟨2433, (.cells 108 [(.slice 2431 0 1 1 1)]), (.cells 108 [(.slice 2431 0 1 1 1)]), false⟩,
    ⟨2435, (.cells 636 [(.slice 2433 0 1 1 1)]), (.cells 636 [(.slice 2433 0 1 1 1)]), false⟩,
    ⟨2446, (.cells 648 [(.slice 2426 0 1 1 1), (.slice 2435 0 1 1 1), (.slice 2444 0 0 1 1)]), (.cells 648 [(.slice 2426 0 1 1 1), (.slice 2435 0 1 1 1), (.slice 2444 0 0 1 1)]), false⟩,
    ⟨2422, (.cells 18 [(.str [65, 65])]), (.cells 18 [(.str [65, 65])]), false⟩,
    ⟨2424, (.cells 108 [(.slice 2422 0 1 1 1)]), (.cells 108 [(.slice 2422 0 1 1 1)]), false⟩,
    ⟨2426, (.cells 636 [(.slice 2424 0 1 1 1)]), (.cells 636 [(.slice 2424 0 1 1 1)]), false⟩,
    ⟨2448, (.cells 646 [(.str [77, 83, 72]), (.slice 2416 0 11 11 1), (.str [77, 83, 65]), (.slice 2446 0 2 3 1)]), (.cells 646 [(.str [77, 83, 72]), (.slice 2416 0 11 11 1), (.str [77, 83, 65]), (.slice 2446 0 2 3 1)]), false⟩,
    ⟨2410, (.cells 18 [(.str [80])]), (.cells 18 [(.str [80])]), false⟩,
    ⟨2412, (.cells 108 [(.slice 2410 0 1 1 1)]), (.cells 108 [(.slice 2410 0 1 1 1)]), false⟩,
    ⟨2414, (.cells 636 [(.slice 2412 0 1 1 1)]), (.cells 636 [(.slice 2412 0 1 1 1)]), false⟩,
    ⟨2416, (.cells 648 [(.slice 2350 0 1 1 1), (.slice 2359 0 1 1 1), .nils, .nils, .nils, .nils, (.slice 2380 0 1 1 1), .nils, (.slice 2396 0 1 1 1), (.slice 2405 0 1 1 1), (.slice 2414 0 1 1 1)]), (.cells 648 [(.slice 2350 0 1 1 1), (.slice 2359 0 1 1 1), .nils, .nils, .nils, .nils, (.slice 2380 0 1 1 1), .nils, (.slice 2396 0 1 1 1), (.slice 2405 0 1 1 1), (.slice 2414 0 1 1 1)]), false⟩,
    ⟨2401, (.cells 18 [(.str [49])]), (.cells 18 [(.str [49])]), false⟩,
    ⟨2403, (.cells 108 [(.slice 2401 0 1 1 1)]), (.cells 108 [(.slice 2401 0 1 1 1)]), false⟩,
    ⟨2405, (.cells 636 [(.slice 2403 0 1 1 1)]), (.cells 636 [(.slice 2403 0 1 1 1)]), false⟩,
    ⟨2392, (.cells 18 [(.str [65, 48, 49])]), (.cells 18 [(.str [65, 48, 49])]), false⟩,
    ⟨2394, (.cells 108 [(.slice 2388 0 1 1 1), (.slice 2392 0 1 1 1)]), (.cells 108 [(.slice 2388 0 1 1 1), (.slice 2392 0 1 1 1)]), false⟩,
    ⟨2388, (.cells 18 [(.str [65, 67, 75])]), (.cells 18 [(.str [65, 67, 75])]), false⟩,
    ⟨2396, (.cells 636 [(.slice 2394 0 2 2 1)]), (.cells 636 [(.slice 2394 0 2 2 1)]), false⟩,
    ⟨2376, (.cells 18 [(.str [50, 48, 48, 48, 48, 49, 48, 49, 48, 48, 48, 48, 48, 48])]), (.cells 18 [(.str [50, 48, 48, 48, 48, 49, 48, 49, 48, 48, 48, 48, 48, 48])]), false⟩,
    ⟨2378, (.cells 108 [(.slice 2376 0 1 1 1)]), (.cells 108 [(.slice 2376 0 1 1 1)]), false⟩,
    ⟨2380, (.cells 636 [(.slice 2378 0 1 1 1)]), (.cells 636 [(.slice 2378 0 1 1 1)]), false⟩,
    ⟨2355, (.cells 18 [(.str [94, 126, 92, 38])]), (.cells 18 [(.str [94, 126, 92, 38])]), false⟩,
    ⟨2357, (.cells 108 [(.slice 2355 0 1 1 1)]), (.cells 108 [(.slice 2355 0 1 1 1)]), false⟩,
    ⟨2359, (.cells 636 [(.slice 2357 0 1 1 1)]), (.cells 636 [(.slice 2357 0 1 1 1)]), false⟩,
    ⟨2346, (.cells 18 [(.str [124])]), (.cells 18 [(.str [124])]), false⟩,
    ⟨2348, (.cells 108 [(.slice 2346 0 1 1 1)]), (.cells 108 [(.slice 2346 0 1 1 1)]), false⟩,
    ⟨2350, (.cells 636 [(.slice 2348 0 1 1 1)]), (.cells 636 [(.slice 2348 0 1 1 1)]), false⟩]
  v := (.str [77, 83, 72, 124, 94, 126, 92, 38, 124, 124, 124, 124, 124, 50, 48, 48, 48, 48, 49, 48, 49, 48, 48, 48, 48, 48, 48, 124, 124, 65, 67, 75, 94, 65, 48, 49, 124, 49, 124, 80, 13, 77, 83, 65, 124, 65, 65, 124, 55, 13])
  n1 := 2737
  new := []
noncomputable def told18 : Rk.Told := told0
set_option maxRecDepth 1000000 in
theorem memo18_ok : memo18.check (call Tryz.prog told18 (dcall Tryz.prog 100000) 100000 300 memo18.f memo18.args memo18.start) = true := by kernel_rfl
theorem told_m18 : ToldT Tryz.prog memo18.f (oMemo memo18) := told_memo plain_ mixed_ told0_ok 100000 300 memo18 memo18_ok
end Go.Proofs.YtceafmknfkaedaaGreatDoor
