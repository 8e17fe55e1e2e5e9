/- The first call of chapter 1's statements: it is alive. No conditions. -/
import Derived.Test.YtefebcibcmjbaaaBitsPut
import Derived.Test.YtefebcibcmjbaaaBitsDigits
import Derived.Test.YtefebcibcmjbaaaBitsCrc
namespace Go.Proofs.Ytefebcibcmjbaaa
set_option linter.unusedVariables false
open Go.RowKit
theorem put_258 (w : World) : Calls Try.prog 13 #[.int .i64 258, .int .i64 2] w fun e w' => e = .returned (.tuple #[.string ⟨#[1, 2]⟩, .int .i64 0]) ∧ Below w.heap.size w w' := by
  have h := put_any 258 2 w (by omega) (by omega) (by omega) (by omega)
  rw [show P.putS 258 2 = [1, 2] from by decide +kernel, show P.putE 258 2 = 0 from by decide +kernel] at h
  exact h
theorem crc_19 (w : World) : Calls Try.prog 11 #[.string ⟨#[49, 50, 51, 52, 53, 54, 55, 56, 57]⟩] w fun e w' => e = .returned (.int .i64 3421780262) ∧ w = w' := by
  have h := crc_any ⟨#[49, 50, 51, 52, 53, 54, 55, 56, 57]⟩ w (by decide)
  rw [show P.crc (⟨#[49, 50, 51, 52, 53, 54, 55, 56, 57]⟩ : ByteArray).data.toList = 3421780262 from by decide +kernel] at h
  exact h
theorem digits_50 (w : World) : Calls Try.prog 20 #[.int .i64 (-50)] w fun e w' => e = .returned (.string ⟨#[45, 53, 48]⟩) ∧ Below w.heap.size w w' := by
  have h := digits_any (-50) w (by omega) (by omega)
  rw [show P.digits (-50) = [45, 53, 48] from by decide +kernel] at h
  exact h
theorem add_12 (w : World) : Calls Try.prog 12 #[.int .i64 1, .int .i64 2] w fun e w' => e = .returned (.int .i64 3) ∧ w = w' := by
  have h := add_any 1 2 w (by omega) (by omega) (by omega) (by omega)
  rw [show P.add 1 2 = 3 from by decide +kernel] at h
  exact h
set_option maxHeartbeats 400000 in
theorem alive1 (w : World) : Calls Try.prog 10 #[] w fun e w' => e = .returned (.bool true) ∧ Below w.heap.size w w' := by
  go_enter Try.func10, Try.ntmps10
  go_wp2_with (first
    | (go_at_call 13; refine (put_258 _).mono ?_; rintro e w1 ⟨rfl, hb1⟩)
    | (go_at_call 11; refine (crc_19 _).mono ?_; rintro e w' ⟨rfl, rfl⟩)
    | (go_at_call 20; refine (digits_50 _).mono ?_; rintro e w2 ⟨rfl, hb2⟩)
    | (go_at_call 12; refine (add_12 _).mono ?_; rintro e w' ⟨rfl, rfl⟩))
  go_ret
  exact ⟨rfl, hb1.trans (hb2.mono hb1.size)⟩
end Go.Proofs.Ytefebcibcmjbaaa
