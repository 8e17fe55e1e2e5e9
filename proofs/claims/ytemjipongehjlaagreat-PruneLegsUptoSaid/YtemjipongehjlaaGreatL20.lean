/- What the reference's Due (of tries) returns. -/
import Derived.Test.YtemjipongehjlaaGreatL19
import Derived.Test.YtemjipongehjlaaGreatL13
import Derived.Test.YtemjipongehjlaaGreatL9
namespace Go.Proofs.YtemjipongehjlaaGreat
set_option linter.unusedVariables false
open Go.RowKit Go.BigFrame
set_option maxHeartbeats 2000000 in
set_option maxRecDepth 20000 in
theorem ref3Due_any (now backoff tries : Int) (w : World) (x1 : -9223372036854775808 ≤ now) (x2 : now ≤ 9223372036854775807) (x3 : -9223372036854775808 ≤ backoff) (x4 : backoff ≤ 9223372036854775807) (x5 : -9223372036854775808 ≤ tries) (x6 : tries ≤ 9223372036854775807) :
    Calls Tryz.prog 46 #[.int .i64 now, .int .i64 backoff, .int .i64 tries] w fun e w' => e = .returned (.int .i64 (P.dueAt now backoff tries)) ∧ w = w' := by
  by_cases n0 : now < 0
  · have t1 : decide (now < 0) = true := by simpa using n0
    by_cases b0 : backoff < 0
    · have t2 : decide (backoff < 0) = true := by simpa using b0
      go_enter Tryz.func46, Tryz.ntmps46
      go_wp2_with fail
      go_loop [7, 8] (fun p x => ∃ e : Nat, e ≤ 6 ∧ (e : Int) ≤ max tries 1 - 1 ∧ p = .int .i64 (2 ^ e) ∧ x = .int .i64 ((e : Int) + 1)) (fun _ x => 8 - (intOf x).toNat)
      case atStart => exact ⟨0, by omega, by omega, rfl, rfl⟩
      case round =>
        obtain ⟨e, he, het, rfl, rfl⟩ := hrel
        have hpw : (1 : Int) ≤ 2 ^ e ∧ (2 : Int) ^ e ≤ 64 := by
          rcases (by omega : e = 0 ∨ e = 1 ∨ e = 2 ∨ e = 3 ∨ e = 4 ∨ e = 5 ∨ e = 6) with rfl | rfl | rfl | rfl | rfl | rfl | rfl <;> decide
        by_cases h7 : (e : Int) + 1 < tries
        · have u1 : decide ((e : Int) + 1 < tries) = true := by simpa using h7
          by_cases h8 : e < 6
          · have hlt : (2 : Int) ^ e ≤ 32 := by
              rcases (by omega : e = 0 ∨ e = 1 ∨ e = 2 ∨ e = 3 ∨ e = 4 ∨ e = 5) with rfl | rfl | rfl | rfl | rfl | rfl <;> decide
            have u2 : decide ((2 : Int) ^ e < 64) = true := by simp; omega
            have hs : (2 : Int) * 2 ^ e = 2 ^ (e + 1) := by rw [Int.pow_succ, Int.mul_comm]
            have HS := Lib.hid hs
            have hwr : IntKind.i64.wrap (2 * 2 ^ e) = 2 * 2 ^ e := IntWalk.i64_in _ ⟨by omega, by omega⟩
            clear hs
            go_wp2
            go_round
            case rel => exact ⟨e + 1, by omega, by omega, by rw [HS.out], by go_num⟩
            case measure => simp [intOf]; omega
          · have hk : e = (min (max tries 1 - 1) 6).toNat := by omega
            have u2 : decide ((2 : Int) ^ e < 64) = false := by rw [show e = 6 by omega]; decide
            have HE := Lib.hid (show P.dueAt now backoff tries = 0 from by
              unfold P.dueAt
              rw [← hk, show min (max now 0) 2147483647 = 0 by omega, show min (max backoff 0) 2147483647 = 0 by omega, Int.zero_mul]
              omega)
            clear hk
            go_wp2
            go_ret
            rw [HE.out]
            exact ⟨rfl, rfl⟩
        · have u1 : decide ((e : Int) + 1 < tries) = false := by simpa using h7
          have hk : e = (min (max tries 1 - 1) 6).toNat := by omega
          have HE := Lib.hid (show P.dueAt now backoff tries = 0 from by
            unfold P.dueAt
            rw [← hk, show min (max now 0) 2147483647 = 0 by omega, show min (max backoff 0) 2147483647 = 0 by omega, Int.zero_mul]
            omega)
          clear hk
          go_wp2
          go_ret
          rw [HE.out]
          exact ⟨rfl, rfl⟩
    · have t2 : decide (backoff < 0) = false := by simpa using b0
      by_cases bm : 2147483647 < backoff
      · have t3 : decide (2147483647 < backoff) = true := by simpa using bm
        have HE := Lib.hid (show P.dueAt now backoff tries = 2147483647 from by
          unfold P.dueAt
          have hp : (1 : Int) ≤ 2 ^ (min (max tries 1 - 1) 6).toNat := by
            have hk : (min (max tries 1 - 1) 6).toNat ≤ 6 := by omega
            generalize (min (max tries 1 - 1) 6).toNat = e at *
            rcases (by omega : e = 0 ∨ e = 1 ∨ e = 2 ∨ e = 3 ∨ e = 4 ∨ e = 5 ∨ e = 6) with rfl | rfl | rfl | rfl | rfl | rfl | rfl <;> decide
          have h0 : 0 ≤ min (max backoff 0) 2147483647 := by omega
          have h1 := Int.mul_le_mul_of_nonneg_left hp h0
          rw [Int.mul_one] at h1
          generalize min (max backoff 0) 2147483647 * 2 ^ (min (max tries 1 - 1) 6).toNat = q at *
          omega)
        go_enter Tryz.func46, Tryz.ntmps46
        go_wp2
        go_ret
        rw [HE.out]
        exact ⟨rfl, rfl⟩
      · have t3 : decide (2147483647 < backoff) = false := by simpa using bm
        go_enter Tryz.func46, Tryz.ntmps46
        go_wp2_with fail
        go_loop [7, 8] (fun p x => ∃ e : Nat, e ≤ 6 ∧ (e : Int) ≤ max tries 1 - 1 ∧ p = .int .i64 (2 ^ e) ∧ x = .int .i64 ((e : Int) + 1)) (fun _ x => 8 - (intOf x).toNat)
        case atStart => exact ⟨0, by omega, by omega, rfl, rfl⟩
        case round =>
          obtain ⟨e, he, het, rfl, rfl⟩ := hrel
          have hpw : (1 : Int) ≤ 2 ^ e ∧ (2 : Int) ^ e ≤ 64 := by
            rcases (by omega : e = 0 ∨ e = 1 ∨ e = 2 ∨ e = 3 ∨ e = 4 ∨ e = 5 ∨ e = 6) with rfl | rfl | rfl | rfl | rfl | rfl | rfl <;> decide
          by_cases h7 : (e : Int) + 1 < tries
          · have u1 : decide ((e : Int) + 1 < tries) = true := by simpa using h7
            by_cases h8 : e < 6
            · have hlt : (2 : Int) ^ e ≤ 32 := by
                rcases (by omega : e = 0 ∨ e = 1 ∨ e = 2 ∨ e = 3 ∨ e = 4 ∨ e = 5) with rfl | rfl | rfl | rfl | rfl | rfl <;> decide
              have u2 : decide ((2 : Int) ^ e < 64) = true := by simp; omega
              have hs : (2 : Int) * 2 ^ e = 2 ^ (e + 1) := by rw [Int.pow_succ, Int.mul_comm]
              have HS := Lib.hid hs
              have hwr : IntKind.i64.wrap (2 * 2 ^ e) = 2 * 2 ^ e := IntWalk.i64_in _ ⟨by omega, by omega⟩
              clear hs
              go_wp2
              go_round
              case rel => exact ⟨e + 1, by omega, by omega, by rw [HS.out], by go_num⟩
              case measure => simp [intOf]; omega
            · have hk : e = (min (max tries 1 - 1) 6).toNat := by omega
              have u2 : decide ((2 : Int) ^ e < 64) = false := by rw [show e = 6 by omega]; decide
              have hb1 : 0 ≤ backoff * 2 ^ e ∧ backoff * 2 ^ e ≤ 137438953408 := by
                have h1 : backoff * 2 ^ e ≤ 2147483647 * 2 ^ e := Int.mul_le_mul_of_nonneg_right (by omega) (by omega)
                have h2 : 0 ≤ backoff * 2 ^ e := Int.mul_nonneg (by omega) (by omega)
                omega
              have HD := Lib.hid (show P.dueAt now backoff tries = if 2147483647 < backoff * 2 ^ e then 2147483647 else backoff * 2 ^ e from by
                unfold P.dueAt
                rw [← hk, show min (max now 0) 2147483647 = 0 by omega, show min (max backoff 0) 2147483647 = backoff by omega]
                generalize backoff * 2 ^ e = q at *
                split <;> omega)
              have hw1 : IntKind.i64.wrap (backoff * 2 ^ e) = backoff * 2 ^ e := IntWalk.i64_in _ ⟨by omega, by omega⟩
              have hw2 : IntKind.i64.wrap (backoff * 2 ^ e) = backoff * 2 ^ e := IntWalk.i64_in _ ⟨by omega, by omega⟩
              by_cases h9 : 2147483647 < backoff * 2 ^ e
              · have u3 : decide (2147483647 < backoff * 2 ^ e) = true := by simpa using h9
                have HE := Lib.hid (HD.out.trans (if_pos h9))
                clear h9 hk hb1
                go_wp2
                go_ret
                rw [HE.out]
                exact ⟨rfl, rfl⟩
              · have u3 : decide (2147483647 < backoff * 2 ^ e) = false := by simpa using h9
                have HE := Lib.hid (HD.out.trans (if_neg h9))
                clear h9 hk hb1
                go_wp2
                go_ret
                rw [HE.out]
                exact ⟨rfl, rfl⟩
          · have u1 : decide ((e : Int) + 1 < tries) = false := by simpa using h7
            have hk : e = (min (max tries 1 - 1) 6).toNat := by omega
            have hb1 : 0 ≤ backoff * 2 ^ e ∧ backoff * 2 ^ e ≤ 137438953408 := by
              have h1 : backoff * 2 ^ e ≤ 2147483647 * 2 ^ e := Int.mul_le_mul_of_nonneg_right (by omega) (by omega)
              have h2 : 0 ≤ backoff * 2 ^ e := Int.mul_nonneg (by omega) (by omega)
              omega
            have HD := Lib.hid (show P.dueAt now backoff tries = if 2147483647 < backoff * 2 ^ e then 2147483647 else backoff * 2 ^ e from by
              unfold P.dueAt
              rw [← hk, show min (max now 0) 2147483647 = 0 by omega, show min (max backoff 0) 2147483647 = backoff by omega]
              generalize backoff * 2 ^ e = q at *
              split <;> omega)
            have hw1 : IntKind.i64.wrap (backoff * 2 ^ e) = backoff * 2 ^ e := IntWalk.i64_in _ ⟨by omega, by omega⟩
            have hw2 : IntKind.i64.wrap (backoff * 2 ^ e) = backoff * 2 ^ e := IntWalk.i64_in _ ⟨by omega, by omega⟩
            by_cases h9 : 2147483647 < backoff * 2 ^ e
            · have u3 : decide (2147483647 < backoff * 2 ^ e) = true := by simpa using h9
              have HE := Lib.hid (HD.out.trans (if_pos h9))
              clear h9 hk hb1
              go_wp2
              go_ret
              rw [HE.out]
              exact ⟨rfl, rfl⟩
            · have u3 : decide (2147483647 < backoff * 2 ^ e) = false := by simpa using h9
              have HE := Lib.hid (HD.out.trans (if_neg h9))
              clear h9 hk hb1
              go_wp2
              go_ret
              rw [HE.out]
              exact ⟨rfl, rfl⟩
  · have t1 : decide (now < 0) = false := by simpa using n0
    by_cases nm : 2147483647 < now
    · have t4 : decide (2147483647 < now) = true := by simpa using nm
      by_cases b0 : backoff < 0
      · have t2 : decide (backoff < 0) = true := by simpa using b0
        have HE := Lib.hid (show P.dueAt now backoff tries = 2147483647 from by
          unfold P.dueAt
          have hp : (1 : Int) ≤ 2 ^ (min (max tries 1 - 1) 6).toNat := by
            have hk : (min (max tries 1 - 1) 6).toNat ≤ 6 := by omega
            generalize (min (max tries 1 - 1) 6).toNat = e at *
            rcases (by omega : e = 0 ∨ e = 1 ∨ e = 2 ∨ e = 3 ∨ e = 4 ∨ e = 5 ∨ e = 6) with rfl | rfl | rfl | rfl | rfl | rfl | rfl <;> decide
          have h0 : 0 ≤ min (max backoff 0) 2147483647 := by omega
          have h1 := Int.mul_le_mul_of_nonneg_left hp h0
          rw [Int.mul_one] at h1
          generalize min (max backoff 0) 2147483647 * 2 ^ (min (max tries 1 - 1) 6).toNat = q at *
          omega)
        go_enter Tryz.func46, Tryz.ntmps46
        go_wp2
        go_ret
        rw [HE.out]
        exact ⟨rfl, rfl⟩
      · have t2 : decide (backoff < 0) = false := by simpa using b0
        have HE := Lib.hid (show P.dueAt now backoff tries = 2147483647 from by
          unfold P.dueAt
          have hp : (1 : Int) ≤ 2 ^ (min (max tries 1 - 1) 6).toNat := by
            have hk : (min (max tries 1 - 1) 6).toNat ≤ 6 := by omega
            generalize (min (max tries 1 - 1) 6).toNat = e at *
            rcases (by omega : e = 0 ∨ e = 1 ∨ e = 2 ∨ e = 3 ∨ e = 4 ∨ e = 5 ∨ e = 6) with rfl | rfl | rfl | rfl | rfl | rfl | rfl <;> decide
          have h0 : 0 ≤ min (max backoff 0) 2147483647 := by omega
          have h1 := Int.mul_le_mul_of_nonneg_left hp h0
          rw [Int.mul_one] at h1
          generalize min (max backoff 0) 2147483647 * 2 ^ (min (max tries 1 - 1) 6).toNat = q at *
          omega)
        go_enter Tryz.func46, Tryz.ntmps46
        go_wp2
        go_ret
        rw [HE.out]
        exact ⟨rfl, rfl⟩
    · have t4 : decide (2147483647 < now) = false := by simpa using nm
      by_cases b0 : backoff < 0
      · have t2 : decide (backoff < 0) = true := by simpa using b0
        go_enter Tryz.func46, Tryz.ntmps46
        go_wp2_with fail
        go_loop [7, 8] (fun p x => ∃ e : Nat, e ≤ 6 ∧ (e : Int) ≤ max tries 1 - 1 ∧ p = .int .i64 (2 ^ e) ∧ x = .int .i64 ((e : Int) + 1)) (fun _ x => 8 - (intOf x).toNat)
        case atStart => exact ⟨0, by omega, by omega, rfl, rfl⟩
        case round =>
          obtain ⟨e, he, het, rfl, rfl⟩ := hrel
          have hpw : (1 : Int) ≤ 2 ^ e ∧ (2 : Int) ^ e ≤ 64 := by
            rcases (by omega : e = 0 ∨ e = 1 ∨ e = 2 ∨ e = 3 ∨ e = 4 ∨ e = 5 ∨ e = 6) with rfl | rfl | rfl | rfl | rfl | rfl | rfl <;> decide
          by_cases h7 : (e : Int) + 1 < tries
          · have u1 : decide ((e : Int) + 1 < tries) = true := by simpa using h7
            by_cases h8 : e < 6
            · have hlt : (2 : Int) ^ e ≤ 32 := by
                rcases (by omega : e = 0 ∨ e = 1 ∨ e = 2 ∨ e = 3 ∨ e = 4 ∨ e = 5) with rfl | rfl | rfl | rfl | rfl | rfl <;> decide
              have u2 : decide ((2 : Int) ^ e < 64) = true := by simp; omega
              have hs : (2 : Int) * 2 ^ e = 2 ^ (e + 1) := by rw [Int.pow_succ, Int.mul_comm]
              have HS := Lib.hid hs
              have hwr : IntKind.i64.wrap (2 * 2 ^ e) = 2 * 2 ^ e := IntWalk.i64_in _ ⟨by omega, by omega⟩
              clear hs
              go_wp2
              go_round
              case rel => exact ⟨e + 1, by omega, by omega, by rw [HS.out], by go_num⟩
              case measure => simp [intOf]; omega
            · have hk : e = (min (max tries 1 - 1) 6).toNat := by omega
              have u2 : decide ((2 : Int) ^ e < 64) = false := by rw [show e = 6 by omega]; decide
              have HE := Lib.hid (show P.dueAt now backoff tries = now from by
                unfold P.dueAt
                rw [← hk, show min (max now 0) 2147483647 = now by omega, show min (max backoff 0) 2147483647 = 0 by omega, Int.zero_mul]
                omega)
              clear hk
              go_wp2
              go_ret
              rw [HE.out]
              exact ⟨rfl, rfl⟩
          · have u1 : decide ((e : Int) + 1 < tries) = false := by simpa using h7
            have hk : e = (min (max tries 1 - 1) 6).toNat := by omega
            have HE := Lib.hid (show P.dueAt now backoff tries = now from by
              unfold P.dueAt
              rw [← hk, show min (max now 0) 2147483647 = now by omega, show min (max backoff 0) 2147483647 = 0 by omega, Int.zero_mul]
              omega)
            clear hk
            go_wp2
            go_ret
            rw [HE.out]
            exact ⟨rfl, rfl⟩
      · have t2 : decide (backoff < 0) = false := by simpa using b0
        by_cases bm : 2147483647 < backoff
        · have t3 : decide (2147483647 < backoff) = true := by simpa using bm
          have HE := Lib.hid (show P.dueAt now backoff tries = 2147483647 from by
            unfold P.dueAt
            have hp : (1 : Int) ≤ 2 ^ (min (max tries 1 - 1) 6).toNat := by
              have hk : (min (max tries 1 - 1) 6).toNat ≤ 6 := by omega
              generalize (min (max tries 1 - 1) 6).toNat = e at *
              rcases (by omega : e = 0 ∨ e = 1 ∨ e = 2 ∨ e = 3 ∨ e = 4 ∨ e = 5 ∨ e = 6) with rfl | rfl | rfl | rfl | rfl | rfl | rfl <;> decide
            have h0 : 0 ≤ min (max backoff 0) 2147483647 := by omega
            have h1 := Int.mul_le_mul_of_nonneg_left hp h0
            rw [Int.mul_one] at h1
            generalize min (max backoff 0) 2147483647 * 2 ^ (min (max tries 1 - 1) 6).toNat = q at *
            omega)
          go_enter Tryz.func46, Tryz.ntmps46
          go_wp2
          go_ret
          rw [HE.out]
          exact ⟨rfl, rfl⟩
        · have t3 : decide (2147483647 < backoff) = false := by simpa using bm
          go_enter Tryz.func46, Tryz.ntmps46
          go_wp2_with fail
          go_loop [7, 8] (fun p x => ∃ e : Nat, e ≤ 6 ∧ (e : Int) ≤ max tries 1 - 1 ∧ p = .int .i64 (2 ^ e) ∧ x = .int .i64 ((e : Int) + 1)) (fun _ x => 8 - (intOf x).toNat)
          case atStart => exact ⟨0, by omega, by omega, rfl, rfl⟩
          case round =>
            obtain ⟨e, he, het, rfl, rfl⟩ := hrel
            have hpw : (1 : Int) ≤ 2 ^ e ∧ (2 : Int) ^ e ≤ 64 := by
              rcases (by omega : e = 0 ∨ e = 1 ∨ e = 2 ∨ e = 3 ∨ e = 4 ∨ e = 5 ∨ e = 6) with rfl | rfl | rfl | rfl | rfl | rfl | rfl <;> decide
            by_cases h7 : (e : Int) + 1 < tries
            · have u1 : decide ((e : Int) + 1 < tries) = true := by simpa using h7
              by_cases h8 : e < 6
              · have hlt : (2 : Int) ^ e ≤ 32 := by
                  rcases (by omega : e = 0 ∨ e = 1 ∨ e = 2 ∨ e = 3 ∨ e = 4 ∨ e = 5) with rfl | rfl | rfl | rfl | rfl | rfl <;> decide
                have u2 : decide ((2 : Int) ^ e < 64) = true := by simp; omega
                have hs : (2 : Int) * 2 ^ e = 2 ^ (e + 1) := by rw [Int.pow_succ, Int.mul_comm]
                have HS := Lib.hid hs
                have hwr : IntKind.i64.wrap (2 * 2 ^ e) = 2 * 2 ^ e := IntWalk.i64_in _ ⟨by omega, by omega⟩
                clear hs
                go_wp2
                go_round
                case rel => exact ⟨e + 1, by omega, by omega, by rw [HS.out], by go_num⟩
                case measure => simp [intOf]; omega
              · have hk : e = (min (max tries 1 - 1) 6).toNat := by omega
                have u2 : decide ((2 : Int) ^ e < 64) = false := by rw [show e = 6 by omega]; decide
                have hb1 : 0 ≤ backoff * 2 ^ e ∧ backoff * 2 ^ e ≤ 137438953408 := by
                  have h1 : backoff * 2 ^ e ≤ 2147483647 * 2 ^ e := Int.mul_le_mul_of_nonneg_right (by omega) (by omega)
                  have h2 : 0 ≤ backoff * 2 ^ e := Int.mul_nonneg (by omega) (by omega)
                  omega
                have HD := Lib.hid (show P.dueAt now backoff tries = if 2147483647 < now + backoff * 2 ^ e then 2147483647 else now + backoff * 2 ^ e from by
                  unfold P.dueAt
                  rw [← hk, show min (max now 0) 2147483647 = now by omega, show min (max backoff 0) 2147483647 = backoff by omega]
                  generalize backoff * 2 ^ e = q at *
                  split <;> omega)
                have hw1 : IntKind.i64.wrap (backoff * 2 ^ e) = backoff * 2 ^ e := IntWalk.i64_in _ ⟨by omega, by omega⟩
                have hw2 : IntKind.i64.wrap (now + backoff * 2 ^ e) = now + backoff * 2 ^ e := IntWalk.i64_in _ ⟨by omega, by omega⟩
                by_cases h9 : 2147483647 < now + backoff * 2 ^ e
                · have u3 : decide (2147483647 < now + backoff * 2 ^ e) = true := by simpa using h9
                  have HE := Lib.hid (HD.out.trans (if_pos h9))
                  clear h9 hk hb1
                  go_wp2
                  go_ret
                  rw [HE.out]
                  exact ⟨rfl, rfl⟩
                · have u3 : decide (2147483647 < now + backoff * 2 ^ e) = false := by simpa using h9
                  have HE := Lib.hid (HD.out.trans (if_neg h9))
                  clear h9 hk hb1
                  go_wp2
                  go_ret
                  rw [HE.out]
                  exact ⟨rfl, rfl⟩
            · have u1 : decide ((e : Int) + 1 < tries) = false := by simpa using h7
              have hk : e = (min (max tries 1 - 1) 6).toNat := by omega
              have hb1 : 0 ≤ backoff * 2 ^ e ∧ backoff * 2 ^ e ≤ 137438953408 := by
                have h1 : backoff * 2 ^ e ≤ 2147483647 * 2 ^ e := Int.mul_le_mul_of_nonneg_right (by omega) (by omega)
                have h2 : 0 ≤ backoff * 2 ^ e := Int.mul_nonneg (by omega) (by omega)
                omega
              have HD := Lib.hid (show P.dueAt now backoff tries = if 2147483647 < now + backoff * 2 ^ e then 2147483647 else now + backoff * 2 ^ e from by
                unfold P.dueAt
                rw [← hk, show min (max now 0) 2147483647 = now by omega, show min (max backoff 0) 2147483647 = backoff by omega]
                generalize backoff * 2 ^ e = q at *
                split <;> omega)
              have hw1 : IntKind.i64.wrap (backoff * 2 ^ e) = backoff * 2 ^ e := IntWalk.i64_in _ ⟨by omega, by omega⟩
              have hw2 : IntKind.i64.wrap (now + backoff * 2 ^ e) = now + backoff * 2 ^ e := IntWalk.i64_in _ ⟨by omega, by omega⟩
              by_cases h9 : 2147483647 < now + backoff * 2 ^ e
              · have u3 : decide (2147483647 < now + backoff * 2 ^ e) = true := by simpa using h9
                have HE := Lib.hid (HD.out.trans (if_pos h9))
                clear h9 hk hb1
                go_wp2
                go_ret
                rw [HE.out]
                exact ⟨rfl, rfl⟩
              · have u3 : decide (2147483647 < now + backoff * 2 ^ e) = false := by simpa using h9
                have HE := Lib.hid (HD.out.trans (if_neg h9))
                clear h9 hk hb1
                go_wp2
                go_ret
                rw [HE.out]
                exact ⟨rfl, rfl⟩
end Go.Proofs.YtemjipongehjlaaGreat
/- What the reference's touched returns. -/
namespace Go.Proofs.YtemjipongehjlaaGreat
set_option linter.unusedVariables false
open Go.RowKit Go.BigFrame
/-- What the operations of a region that stores into one leg leave. f: the leg, as far as they have run. -/
structure PutI (W0 : World) (Bo g n c : Nat) (ls : List P.Leg) (k : Nat) (f : (Nat → Bool) → P.Leg) (L : Nat → Bool) (vs : Nat → Value) (w : World) : Prop where
  own : OwnL w Bo (.slice (some ⟨g, 0, none⟩) n c) (ls.set k (f L))
  gr : W0.grownBy w (some g)
theorem grown_refl (w : World) (row : Option Nat) : w.grownBy w row := (Stays.refl w).grown row
section
variable {W0 : World} {Bo g n c : Nat} {ls : List P.Leg} {k : Nat} {f : (Nat → Bool) → P.Leg} {L : Nat → Bool} {vs : Nat → Value} {w w' : World}
theorem PutI.start {l : P.Leg} (h : OwnL W0 Bo (.slice (some ⟨g, 0, none⟩) n c) ls) (hl : ls[k]? = some l) (hf : f (fun _ => false) = l) : PutI W0 Bo g n c ls k f (fun _ => false) vs { W0 with drawn := W0.drawn + 1 } := by
  refine ⟨?_, (Stays.draw W0).grown _⟩
  have e : ls.set k l = ls := by
    obtain ⟨h1, h2⟩ := List.getElem?_eq_some_iff.1 hl
    rw [← h2]
    exact List.set_getElem_self h1
  rw [hf, e]
  exact h.stays (Stays.draw W0)
theorem PutI.pure (h : PutI W0 Bo g n c ls k f L vs w) {i : Nat} {v : Value} (hf : f (upd L i) = f L) : PutI W0 Bo g n c ls k f (upd L i) (updv vs i v) w := ⟨by rw [hf]; exact h.own, h.gr⟩
theorem PutI.stays (h : PutI W0 Bo g n c ls k f L vs w) {i : Nat} {v : Value} (hs : Stays w w') (hf : f (upd L i) = f L) : PutI W0 Bo g n c ls k f (upd L i) (updv vs i v) w' := ⟨by rw [hf]; exact h.own.stays hs, h.gr.trans (hs.grown _)⟩
theorem PutI.put (h : PutI W0 Bo g n c ls k f L vs w) {i j : Nat} {v u : Value} (hn : ls.length = n) (hk : k < ls.length) (hc : (f (upd L i)).cells = (f L).cells.set j u) (hj : j < 6) : PutI W0 Bo g n c ls k f (upd L i) (updv vs i v) (w.setCell ⟨g, k * 6 + j, none⟩ u) := by
  have h1 := h.own.put (k := k) (l := f L) (l' := f (upd L i)) (j := j) (u := u) (by rw [List.length_set]; exact hn) (by rw [List.getElem?_set_self hk]) hc hj
  rw [List.set_set] at h1
  exact ⟨h1, h.gr.trans (grown_set _ _ _ _)⟩
theorem PutI.legIn (h : PutI W0 Bo g n c ls k f L vs w) (hk : k < ls.length) : LegIn w ⟨g, k * 6, none⟩ (f L) := h.own.legIn (by rw [List.getElem?_set_self hk])
theorem PutI.frz (h : PutI W0 Bo g n c ls k f L vs w) (hn : ls.length = n) (j : Nat) : w.frozen? ⟨g, j, none⟩ = false := h.own.frz (by rw [List.length_set]; exact hn) j
end
def GivesRK (w : World) (id run tm st dn flt : Int) (raw : ByteArray) (k : Nat) (l : List P.Leg) (x : Ending) (w' : World) : Prop := ∃ v, x = .returned (.tuple #[.agg #[.int .i64 id, .int .i64 run, .int .i64 tm, .int .i64 st, .int .i64 dn, .string raw, .int .i64 flt, v], .int .i64 k]) ∧ OwnL w' w.heap.size v l ∧ Below w.heap.size w w'
set_option maxRecDepth 100000 in
set_option maxHeartbeats 4000000 in
theorem touched_any (id run tm st dn flt : Int) (raw : ByteArray) (A : Option Addr) (m cp : Nat) (ls : List P.Leg) (dest reply : ByteArray) (k : Nat) (l : P.Leg) (B : Nat) (w : World)
    (h : LegsAt w B A m ls) (hA : A = none → m = 0 ∧ cp = 0) (hB : B ≤ w.heap.size) (hm : m ≤ 1099511627776) (hk : P.legAt ls dest = some k) (hki : P.legI ls dest = (k : Int)) (hl : ls[k]? = some l) (ht : (Lit.int .i64 l.tries).wf = true) (hr : reply.size ≤ maxLen) :
    Calls Tryz.prog 43 #[.agg #[.int .i64 id, .int .i64 run, .int .i64 tm, .int .i64 st, .int .i64 dn, .string raw, .int .i64 flt, .slice A m cp], .string dest, .string reply] w (GivesRK w id run tm st dn flt raw k (ls.set k (P.touch l reply))) := by
  unfold maxLen at hr
  have hkl : k < ls.length := by
    rcases Nat.lt_or_ge k ls.length with h1 | h1
    · exact h1
    · rw [List.getElem?_eq_none h1] at hl; cases hl
  have hb := (((Below.refl w.heap.size w).alloc (Nat.le_refl _) (.cells #[.int .i64 id, .int .i64 run, .int .i64 tm, .int .i64 st, .int .i64 dn, .string raw, .int .i64 flt, .slice A m cp] 28)).alloc (by simp) (.cells #[.int .i64 0, .int .i64 0, .int .i64 0, .int .i64 0, .int .i64 0, .string ⟨#[]⟩, .int .i64 0, .slice none 0 0] 28))
  have k1 := (Blk.new w 28 #[.int .i64 id, .int .i64 run, .int .i64 tm, .int .i64 st, .int .i64 dn, .string raw, .int .i64 flt, .slice A m cp]).alloc (.cells #[.int .i64 0, .int .i64 0, .int .i64 0, .int .i64 0, .int .i64 0, .string ⟨#[]⟩, .int .i64 0, .slice none 0 0] 28)
  have k2 := Blk.new (w.alloc (.cells #[.int .i64 id, .int .i64 run, .int .i64 tm, .int .i64 st, .int .i64 dn, .string raw, .int .i64 flt, .slice A m cp] 28)) 28 #[.int .i64 0, .int .i64 0, .int .i64 0, .int .i64 0, .int .i64 0, .string ⟨#[]⟩, .int .i64 0, .slice none 0 0]
  rw [show (w.alloc (.cells #[.int .i64 id, .int .i64 run, .int .i64 tm, .int .i64 st, .int .i64 dn, .string raw, .int .i64 flt, .slice A m cp] 28)).heap.size = w.heap.size + 1 from by simp] at k2
  have hz : ((w.alloc (.cells #[.int .i64 id, .int .i64 run, .int .i64 tm, .int .i64 st, .int .i64 dn, .string raw, .int .i64 flt, .slice A m cp] 28)).alloc (.cells #[.int .i64 0, .int .i64 0, .int .i64 0, .int .i64 0, .int .i64 0, .string ⟨#[]⟩, .int .i64 0, .slice none 0 0] 28)).heap.size = w.heap.size + 2 := by simp
  have KC := Lib.hid (copyRow_any id run tm st dn flt raw A m cp ls B _ (h.below (hb.mono hB)) hA (Nat.le_trans hB hb.size) hm)
  have HB := Lib.hid hb
  have K1 := Lib.hid k1
  have K2 := Lib.hid k2
  have HZ := Lib.hid hz
  have HL := Lib.hid hl
  have HKI := Lib.hid hki
  have HLM := Lib.hid (show ls.length = m from h.len)
  have hbt := bounds_i64 ht
  have c1 := fun i => k1.cell i
  clear h hA hb k1 k2 hz hk hki hl ht
  go_enter Tryz.func43, Tryz.ntmps43
  go_wp2_with fail
  refine KC.out.mono ?_
  rintro x w2 ⟨v, rfl, hown, hb2⟩
  rw [HZ.out] at hown
  obtain ⟨g2, c2, hv, hgb, hgl⟩ := World.ownsRow.form hown (by omega)
  subst hv
  have X1 := Lib.hid (K1.out.below hb2 K1.out.lt)
  have X2 := Lib.hid (K2.out.below hb2 K2.out.lt)
  have B2 := Lib.hid (HB.out.trans (hb2.mono HB.out.size))
  have OW := Lib.hid hown
  clear hb2 hown c1
  go_wp2_with (refine wpList_store_mid rfl 28 (.tmp 3) (.tmp 10) rfl w.heap.size 0 #[.int .i64 id, .int .i64 run, .int .i64 tm, .int .i64 st, .int .i64 dn, .string raw, .int .i64 flt, .slice (some ⟨g2, 0, none⟩) ls.length c2] rfl rfl (X1.out.there 8 (by simp)) (by kernel_rfl) (by simp [Value.oneCell']) ?_; have y1 := X1.out.set8 (a := .int .i64 id) (b := .int .i64 run) (c := .int .i64 tm) (d := .int .i64 st) (e := .int .i64 dn) (f := .string raw) (g := .int .i64 flt) (h := .slice (some ⟨g2, 0, none⟩) ls.length c2); have y2 := X2.out.farCells (b := w.heap.size) (by omega) [.int .i64 id, .int .i64 run, .int .i64 tm, .int .i64 st, .int .i64 dn, .string raw, .int .i64 flt, .slice (some ⟨g2, 0, none⟩) ls.length c2] 0; have o3 := OW.out.farCells (b := w.heap.size) (by simp [Value.ownBlock]; omega) [.int .i64 id, .int .i64 run, .int .i64 tm, .int .i64 st, .int .i64 dn, .string raw, .int .i64 flt, .slice (some ⟨g2, 0, none⟩) ls.length c2] 0; have b3 := below_setCells B2.out (b := w.heap.size) (by omega) [.int .i64 id, .int .i64 run, .int .i64 tm, .int .i64 st, .int .i64 dn, .string raw, .int .i64 flt, .slice (some ⟨g2, 0, none⟩) ls.length c2] 0; simp only [List.toList_toArray] at *; generalize w2.setCells w.heap.size 0 [.int .i64 id, .int .i64 run, .int .i64 tm, .int .i64 st, .int .i64 dn, .string raw, .int .i64 flt, .slice (some ⟨g2, 0, none⟩) ls.length c2] = w3 at *; have Y1 := Lib.hid y1; have Y2 := Lib.hid y2; have O3 := Lib.hid o3; have B3 := Lib.hid b3; have c1 := fun i => Y1.out.cell i; clear y1 y2 o3 b3)
  have hln : ls.length ≤ 1099511627776 := by have := HLM.out; omega
  have LG := refLeg_any id run tm st dn flt raw (some ⟨g2, 0, none⟩) ls.length c2 ls dest w3.heap.size w3 (O3.out.legsAt rfl) (Nat.le_refl _) (by unfold maxLen; omega)
  rw [HKI.out] at LG
  refine LG.mono ?_
  rintro x w4 ⟨rfl, hb4⟩
  have Z1 := Lib.hid (Y1.out.below hb4 Y1.out.lt)
  have Z2 := Lib.hid (Y2.out.below hb4 Y2.out.lt)
  have O4 := Lib.hid (O3.out.below hb4 (Nat.le_refl _))
  have B4 := Lib.hid (bt'' B3.out hb4)
  clear hb4 c1 LG
  go_wp2_with fail
  refine wp_region_genC 13 [] (PutI w4 (w.heap.size + 2) g2 ls.length c2 ls k (fun L => { l with tries := if L 12 = true then P.add l.tries 1 else l.tries })) (by kernel_rfl) (by kernel_rfl) (PutI.start O4.out HL.out rfl) ?_
  apply wpGenC_pure rfl
  · intro L vs wx hI hC hR hL K hK
    have c1 := fun i => (Z1.out.grownAt hI.gr (by omega)).cell i
    go_simp
    exact hK _ (hI.pure (by simp [updN]))
  intro KK hKK
  go_simp
  refine hKK _ ?_
  clear hKK KK
  apply wpGenC_pure rfl
  · intro L vs wx hI hC hR hL K hK
    have c1 := fun i => (Z1.out.grownAt hI.gr (by omega)).cell i
    go_simp
    exact hK _ (hI.pure (by simp [updN]))
  intro KK hKK
  go_simp
  refine hKK _ ?_
  clear hKK KK
  apply wpGenC_pure rfl
  · intro L vs wx hI hC hR hL K hK
    go_simp
    exact hK _ (hI.pure (by simp [updN]))
  intro KK hKK
  go_simp
  refine hKK _ ?_
  clear hKK KK
  apply wpGenC_pure rfl
  · intro L vs wx hI hC hR hL K hK
    go_simp
    exact hK _ (hI.pure (by simp [updN]))
  intro KK hKK
  go_simp
  refine hKK _ ?_
  clear hKK KK
  apply wpGenC_pure rfl
  · intro L vs wx hI hC hR hL K hK
    have c1 := fun i => (Z1.out.grownAt hI.gr (by omega)).cell i
    go_simp
    exact hK _ (hI.pure (by simp [updN]))
  intro KK hKK
  go_simp
  refine hKK _ ?_
  clear hKK KK
  apply wpGenC_pure rfl
  · intro L vs wx hI hC hR hL K hK
    go_simp
    exact hK _ (hI.pure (by simp [updN]))
  intro KK hKK
  go_simp
  refine hKK _ ?_
  clear hKK KK
  apply wpGenC_pure rfl
  · intro L vs wx hI hC hR hL K hK
    go_simp
    exact hK _ (hI.pure (by simp [updN]))
  intro KK hKK
  go_simp
  refine hKK _ ?_
  clear hKK KK
  apply wpGenC_pure rfl
  · intro L vs wx hI hC hR hL K hK
    go_simp
    exact hK _ (hI.pure (by simp [updN]))
  intro KK hKK
  go_simp
  refine hKK _ ?_
  clear hKK KK
  apply wpGenC_pure rfl
  · intro L vs wx hI hC hR hL K hK
    have h12 : L 12 = false := hC.off (hC.off hL (i := 9) (by kernel_rfl)) (by kernel_rfl)
    obtain ⟨e0, e1, e2, e3, e4, e5⟩ := hI.legIn hkl
    simp only [h12, Bool.false_eq_true, if_false] at e2
    go_simp
    exact hK _ (hI.pure (by simp [updN]))
  intro KK hKK
  go_simp
  refine hKK _ ?_
  clear hKK KK
  apply wpGenC_pure rfl
  · intro L vs wx hI hC hR hL K hK
    go_simp
    refine (refAdd_any l.tries 1 _ hbt.1 hbt.2 (by omega) (by omega)).mono ?_
    rintro e w' ⟨rfl, rfl⟩
    exact ⟨_, rfl, hK _ (hI.pure (by simp [updN]))⟩
  intro KK hKK
  go_simp
  refine hKK _ ?_
  clear hKK KK
  apply wpGenC_pure rfl
  · intro L vs wx hI hC hR hL K hK
    go_simp
    exact hK _ (hI.pure (by simp [updN]))
  intro KK hKK
  go_simp
  refine hKK _ ?_
  clear hKK KK
  apply wpGenC_pure rfl
  · intro L vs wx hI hC hR hL K hK
    go_simp
    exact hK _ (hI.pure (by simp [updN]))
  intro KK hKK
  go_simp
  refine hKK _ ?_
  clear hKK KK
  apply wpGenC_pure rfl
  · intro L vs wx hI hC hR hL K hK
    obtain ⟨e0, e1, e2, e3, e4, e5⟩ := hI.legIn hkl
    have fz := fun j => hI.frz rfl j
    go_simp
    exact hK _ (hI.put (j := 2) rfl hkl (by simp [updS, hL, P.Leg.cells]) (by omega))
  intro KK hKK
  go_simp
  refine hKK _ ?_
  clear hKK KK
  refine wpGenC_nil ?_
  intro vs w5 hI5
  have O5 := hI5.own
  simp only [decide_true, if_true, show (12 : Nat) < 13 from by omega] at O5
  have X1 := Lib.hid (Z1.out.grownAt hI5.gr (by omega))
  have X2 := Lib.hid (Z2.out.grownAt hI5.gr (by omega))
  have B5 := Lib.hid (B4.out.trans (below_grown hI5.gr B4.out.size (by omega)))
  have OW5 := Lib.hid O5
  clear hI5 O5
  intro KK hKK
  simp only [List.drop_succ_cons, List.drop_nil]
  have HLs := Lib.hid (show (ls.set k { l with tries := P.add l.tries 1 })[k]? = some { l with tries := P.add l.tries 1 } from by rw [List.getElem?_set_self hkl])
  obtain ⟨e0, e1, e2, e3, e4, e5⟩ := OW5.out.legIn HLs.out
  have fz := fun j => OW5.out.frz (by rw [List.length_set]) j
  have c1 := fun i => X1.out.cell i
  have d2 := fun i => X2.out.cell i
  have f2 := fun i => X2.out.frozen i
  have key : ∀ rep : ByteArray, rep = P.clip reply → OwnL (w5.setCell ⟨g2, k * 6 + 5, none⟩ (.string rep)) (w.heap.size + 2) (.slice (some ⟨g2, 0, none⟩) ls.length c2) (ls.set k (P.touch l reply)) := fun rep hrep => by
    subst hrep
    have own9 := OW5.out.put (l' := P.touch l reply) (j := 5) (u := .string (P.clip reply)) (by rw [List.length_set]) HLs.out rfl (by omega)
    rw [List.set_set] at own9
    exact own9
  have KEY := Lib.hid key
  clear key
  by_cases hc : 200 < reply.size
  · have t1 : decide ((200 : Int) < (reply.size : Int)) = true := by simp; omega
    have HCL := Lib.hid (show reply.extract 0 200 = P.clip reply from by unfold P.clip; congr 1; omega)
    go_wp2
    refine bodyPost_ret (v := .tuple #[.agg #[.int .i64 id, .int .i64 run, .int .i64 tm, .int .i64 st, .int .i64 dn, .string raw, .int .i64 flt, .slice (some ⟨g2, 0, none⟩) ls.length c2], .int .i64 k]) (by simp [results, Tryz.results43, go_sem, d2]) rfl ⟨_, rfl, ?_, ?_⟩
    · refine OwnL.less (B := w.heap.size + 2) ?_ (by omega)
      iterate 8 (refine OwnL.far ?_ (by simp) _)
      exact KEY.out _ HCL.out
    · iterate 9 (refine Below.setCell ?_ (by simp; try omega) _)
      exact B5.out
  · have t1 : decide ((200 : Int) < (reply.size : Int)) = false := by simp; omega
    have HCL := Lib.hid (show reply = P.clip reply from by
      unfold P.clip
      rw [show min reply.size 200 = reply.size by omega]
      simp)
    go_wp2
    refine bodyPost_ret (v := .tuple #[.agg #[.int .i64 id, .int .i64 run, .int .i64 tm, .int .i64 st, .int .i64 dn, .string raw, .int .i64 flt, .slice (some ⟨g2, 0, none⟩) ls.length c2], .int .i64 k]) (by simp [results, Tryz.results43, go_sem, d2]) rfl ⟨_, rfl, ?_, ?_⟩
    · refine OwnL.less (B := w.heap.size + 2) ?_ (by omega)
      iterate 8 (refine OwnL.far ?_ (by simp) _)
      exact KEY.out _ HCL.out
    · iterate 9 (refine Below.setCell ?_ (by simp; try omega) _)
      exact B5.out
end Go.Proofs.YtemjipongehjlaaGreat
