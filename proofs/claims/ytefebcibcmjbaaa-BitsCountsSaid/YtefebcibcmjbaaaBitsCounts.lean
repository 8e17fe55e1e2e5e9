/- BitsCounts: the walk: every test answers true, for all ints of 64 bits. -/
import Derived.Test.YtefebcibcmjbaaaBitsAlive
namespace Go.Proofs.Ytefebcibcmjbaaa
open Go.RowKit Go.BigFrame
namespace P
theorem add_eq (a b : Int) : add a b = min (max a 0 + max b 0) 9223372036854775807 := by unfold add; split <;> omega
theorem add_bd (a b : Int) : 0 ≤ add a b ∧ add a b ≤ 9223372036854775807 := by rw [add_eq]; omega
theorem add_comm (a b : Int) : add a b = add b a := by rw [add_eq, add_eq]; omega
theorem add_assoc (a b c : Int) : add (add a b) c = add a (add b c) := by simp only [add_eq]; omega
end P
set_option maxRecDepth 100000 in
set_option maxHeartbeats 400000 in
theorem bitsCounts_any (a b c : Int) (w : World) (ha : -9223372036854775808 ≤ a) (ha' : a ≤ 9223372036854775807) (hb : -9223372036854775808 ≤ b) (hb' : b ≤ 9223372036854775807) (hc : -9223372036854775808 ≤ c) (hc' : c ≤ 9223372036854775807) :
    Calls Try.prog 4 #[.int .i64 a, .int .i64 b, .int .i64 c] w fun e w' => e = .returned (.bool true) ∧ Below w.heap.size w w' := by
  have bd := P.add_bd
  have h1 : (P.add a b != P.add b a) = false := by rw [P.add_comm]; simp
  have h2 : decide (P.add a b < 0) = false := decide_eq_false (by have := (bd a b).1; omega)
  have h3 : decide (0 ≤ a) = true → decide (P.add a b < a) = false := by
    intro h
    have h : 0 ≤ a := of_decide_eq_true h
    rw [P.add_eq]
    exact decide_eq_false (by omega)
  have h4 : (P.add (P.add a b) c != P.add a (P.add b c)) = false := by rw [P.add_assoc]; simp
  have h5 : (P.add 9223372036854775807 a == 9223372036854775807) = true := by rw [P.add_eq]; exact beq_iff_eq.2 (by omega)
  have Bd := Lib.hid bd
  clear bd
  by_cases h0 : 0 ≤ a
  · have h7 := h3 (decide_eq_true h0)
    have h8 : decide (0 ≤ a) = true := decide_eq_true h0
    have h6 : (P.add 0 a == a) = true := by rw [P.add_eq]; exact beq_iff_eq.2 (by omega)
    clear h3
    go_enter Try.func4, Try.ntmps4
    go_wp2_with (first
      | (go_at_call 12; refine (add_any _ _ _ (by first | omega | (have := Bd.out a b; have := Bd.out b c; omega)) (by first | omega | (have := Bd.out a b; have := Bd.out b c; omega)) (by first | omega | (have := Bd.out a b; have := Bd.out b c; omega)) (by first | omega | (have := Bd.out a b; have := Bd.out b c; omega))).mono ?_; rintro e w' ⟨rfl, rfl⟩)
      | (go_at_call 10; refine (alive1 _).mono ?_; rintro e w1 ⟨rfl, hb1⟩))
    go_ret
    exact ⟨rfl, hb1⟩
  · have h8 : decide (0 ≤ a) = false := decide_eq_false h0
    have h6 : (P.add 0 a == 0) = true := by rw [P.add_eq]; exact beq_iff_eq.2 (by omega)
    clear h3
    go_enter Try.func4, Try.ntmps4
    go_wp2_with (first
      | (go_at_call 12; refine (add_any _ _ _ (by first | omega | (have := Bd.out a b; have := Bd.out b c; omega)) (by first | omega | (have := Bd.out a b; have := Bd.out b c; omega)) (by first | omega | (have := Bd.out a b; have := Bd.out b c; omega)) (by first | omega | (have := Bd.out a b; have := Bd.out b c; omega))).mono ?_; rintro e w' ⟨rfl, rfl⟩)
      | (go_at_call 10; refine (alive1 _).mono ?_; rintro e w1 ⟨rfl, hb1⟩))
    go_ret
    exact ⟨rfl, hb1⟩
end Go.Proofs.Ytefebcibcmjbaaa
