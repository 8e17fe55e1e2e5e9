/- BitsRising and BitsOrder: the walks; and what bits.Compare returns. -/
import Derived.Test.YtefebcibcmjbaaaBitsAlive
import Derived.Test.YtefebcibcmjbaaaPlainCmp
import Derived.Test.YtefebcibcmjbaaaShelf
namespace Go.Proofs.Ytefebcibcmjbaaa
set_option linter.unusedVariables false
open Go.RowKit Go.BigFrame
set_option maxHeartbeats 400000 in
theorem compare_any (a b : ByteArray) (w : World) :
    Calls Try.prog 14 #[.string a, .string b] w fun e w' => e = .returned (.int .i64 (P.cmp a.data.toList b.data.toList)) ∧ w = w' := by
  go_enter Try.func14, Try.ntmps14
  go_wp2_with (go_at_call 29; refine (Try.strings_Compare _ _ _).mono ?_; rintro e w' ⟨rfl, hw⟩)
  subst hw
  go_ret
  exact ⟨rfl, rfl⟩
set_option maxRecDepth 100000 in
set_option maxHeartbeats 400000 in
theorem bitsRising_any (a b n : Int) (w : World) (ha : -9223372036854775808 ≤ a) (ha' : a ≤ 9223372036854775807) (hb : -9223372036854775808 ≤ b) (hb' : b ≤ 9223372036854775807) (hn : -9223372036854775808 ≤ n) (hn' : n ≤ 9223372036854775807) :
    Calls Try.prog 5 #[.int .i64 a, .int .i64 b, .int .i64 n] w fun e w' => e = .returned (.bool true) ∧ Below w.heap.size w w' := by
  have pa := fun W => put_any a n W ha ha' hn hn'
  have pb := fun W => put_any b n W hb hb' hn hn'
  by_cases oa : P.putOk a n = true <;> by_cases ob : P.putOk b n = true
  · have Ea : P.putE a n = 0 := by simp [P.putE, oa]
    have Sa : P.putS a n = P.low n.toNat a.toNat := by simp [P.putS, oa]
    have Eb : P.putE b n = 0 := by simp [P.putE, ob]
    have Sb : P.putS b n = P.low n.toNat b.toNat := by simp [P.putS, ob]
    rw [Ea, Sa] at pa
    rw [Eb, Sb] at pb
    have oa' : 1 ≤ n ∧ n ≤ 7 ∧ 0 ≤ a ∧ a < 256 ^ n.toNat := of_decide_eq_true oa
    have ob' : 1 ≤ n ∧ n ≤ 7 ∧ 0 ≤ b ∧ b < 256 ^ n.toNat := of_decide_eq_true ob
    have hc := P.cmp_low n.toNat a.toNat b.toNat (by have := oa'.2.2.2; have h2 := oa'.2.2.1; exact_mod_cast (by rw [Int.toNat_of_nonneg h2]; exact_mod_cast this : ((a.toNat : Nat) : Int) < ((256 ^ n.toNat : Nat) : Int))) (by have := ob'.2.2.2; have h2 := ob'.2.2.1; exact_mod_cast (by rw [Int.toNat_of_nonneg h2]; exact_mod_cast this : ((b.toNat : Nat) : Int) < ((256 ^ n.toNat : Nat) : Int)))
    have e1 : decide (a < b) = decide (P.cmp (P.low n.toNat a.toNat) (P.low n.toNat b.toNat) < 0) := decide_eq_decide.2 (by rw [hc.1]; omega)
    have e2 : (a == b) = (P.cmp (P.low n.toNat a.toNat) (P.low n.toNat b.toNat) == 0) := by
      rw [Bool.eq_iff_iff, beq_iff_eq, beq_iff_eq, hc.2]; omega
    generalize P.low n.toNat a.toNat = la at *
    generalize P.low n.toNat b.toNat = lb at *
    have g1 : (decide (a < b) == decide (P.cmp la lb < 0)) = true := by rw [e1]; simp
    have g2 : ((a == b) == (P.cmp la lb == 0)) = true := by rw [e2]; simp
    clear Ea Sa Eb Sb oa ob oa' ob' hc e1 e2
    have cm : ∀ W, Calls Try.prog 14 #[.string ⟨la.toArray⟩, .string ⟨lb.toArray⟩] W fun e w' => e = .returned (.int .i64 (P.cmp la lb)) ∧ W = w' := fun W => compare_any ⟨la.toArray⟩ ⟨lb.toArray⟩ W
    generalize P.cmp la lb = k at *
    have PA := Lib.hid pa
    have PB := Lib.hid pb
    have CM := Lib.hid cm
    clear pa pb cm
    go_enter Try.func5, Try.ntmps5
    go_wp2_with fail
    refine (PA.out _).mono ?_
    rintro e w1 ⟨rfl, hb1⟩
    go_wp2_with fail
    refine (PB.out _).mono ?_
    rintro e w2 ⟨rfl, hb2⟩
    go_wp2_with (first
      | (go_at_call 14; refine (CM.out _).mono ?_; rintro e w' ⟨rfl, rfl⟩)
      | (go_at_call 10; refine (alive1 _).mono ?_; rintro e w3 ⟨rfl, hb3⟩))
    go_ret
    exact ⟨rfl, (hb1.trans (hb2.mono hb1.size)).trans (hb3.mono (Nat.le_trans hb1.size hb2.size))⟩
  · have Ea : P.putE a n = 0 := by simp [P.putE, oa]
    have Sa : P.putS a n = P.low n.toNat a.toNat := by simp [P.putS, oa]
    generalize P.low n.toNat a.toNat = la at *
    rw [Ea, Sa] at pa
    have Eb : P.putE b n = 1 := by simp [P.putE, ob]
    have Sb : P.putS b n = [] := by simp [P.putS, ob]
    rw [Eb, Sb] at pb
    have PA := Lib.hid pa
    have PB := Lib.hid pb
    clear pa pb oa ob Ea Sa Eb Sb
    go_enter Try.func5, Try.ntmps5
    go_wp2_with fail
    refine (PA.out _).mono ?_
    rintro e w1 ⟨rfl, hb1⟩
    go_wp2_with fail
    refine (PB.out _).mono ?_
    rintro e w2 ⟨rfl, hb2⟩
    go_wp2_with (go_at_call 10; refine (alive1 _).mono ?_; rintro e w3 ⟨rfl, hb3⟩)
    go_ret
    exact ⟨rfl, (hb1.trans (hb2.mono hb1.size)).trans (hb3.mono (Nat.le_trans hb1.size hb2.size))⟩
  · have Ea : P.putE a n = 1 := by simp [P.putE, oa]
    have Sa : P.putS a n = [] := by simp [P.putS, oa]
    rw [Ea, Sa] at pa
    have Eb : P.putE b n = 0 := by simp [P.putE, ob]
    have Sb : P.putS b n = P.low n.toNat b.toNat := by simp [P.putS, ob]
    generalize P.low n.toNat b.toNat = lb at *
    rw [Eb, Sb] at pb
    have PA := Lib.hid pa
    have PB := Lib.hid pb
    clear pa pb oa ob Ea Sa Eb Sb
    go_enter Try.func5, Try.ntmps5
    go_wp2_with fail
    refine (PA.out _).mono ?_
    rintro e w1 ⟨rfl, hb1⟩
    go_wp2_with fail
    refine (PB.out _).mono ?_
    rintro e w2 ⟨rfl, hb2⟩
    go_wp2_with (go_at_call 10; refine (alive1 _).mono ?_; rintro e w3 ⟨rfl, hb3⟩)
    go_ret
    exact ⟨rfl, (hb1.trans (hb2.mono hb1.size)).trans (hb3.mono (Nat.le_trans hb1.size hb2.size))⟩
  · have Ea : P.putE a n = 1 := by simp [P.putE, oa]
    have Sa : P.putS a n = [] := by simp [P.putS, oa]
    rw [Ea, Sa] at pa
    have Eb : P.putE b n = 1 := by simp [P.putE, ob]
    have Sb : P.putS b n = [] := by simp [P.putS, ob]
    rw [Eb, Sb] at pb
    have PA := Lib.hid pa
    have PB := Lib.hid pb
    clear pa pb oa ob Ea Sa Eb Sb
    go_enter Try.func5, Try.ntmps5
    go_wp2_with fail
    refine (PA.out _).mono ?_
    rintro e w1 ⟨rfl, hb1⟩
    go_wp2_with fail
    refine (PB.out _).mono ?_
    rintro e w2 ⟨rfl, hb2⟩
    go_wp2_with (go_at_call 10; refine (alive1 _).mono ?_; rintro e w3 ⟨rfl, hb3⟩)
    go_ret
    exact ⟨rfl, (hb1.trans (hb2.mono hb1.size)).trans (hb3.mono (Nat.le_trans hb1.size hb2.size))⟩
end Go.Proofs.Ytefebcibcmjbaaa
