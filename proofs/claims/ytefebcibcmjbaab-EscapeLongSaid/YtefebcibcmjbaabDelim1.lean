/- What delim.Default, signs, may and the reference's list return. -/
import Derived.Test.YtefebcibcmjbaabWords
import Derived.Test.YtefebcibcmjbaabPlainDelim
import Derived.BigQuiet
import Derived.Deep.QuietTactic
import Derived.Laws.StructEq
namespace Go.Proofs.Ytefebcibcmjbaab
set_option linter.unusedVariables false
open Go.RowKit Go.BigFrame
theorem default_any (w : World) : Calls Try.prog 24 #[] w fun e w' => e = .returned (.agg #[.int .u8 124, .int .u8 94, .int .u8 126, .int .u8 92, .int .u8 38]) ∧ Below w.heap.size w w' := by
  go_enter Try.func24, Try.ntmps24
  go_wp2
  exact bodyPost_ret (v := .agg #[.int .u8 124, .int .u8 94, .int .u8 126, .int .u8 92, .int .u8 38]) (by simp [results, Try.results24, go_sem]) rfl ⟨rfl, (Below.refl _ _).alloc (Nat.le_refl _) _⟩
theorem signs_any (f c r e s : UInt8) (w : World) : Calls Try.prog 25 #[.agg #[.int .u8 (f.toNat : Int), .int .u8 (c.toNat : Int), .int .u8 (r.toNat : Int), .int .u8 (e.toNat : Int), .int .u8 (s.toNat : Int)]] w fun x w' => x = .returned (.agg #[.int .u8 (f.toNat : Int), .int .u8 (c.toNat : Int), .int .u8 (r.toNat : Int), .int .u8 (e.toNat : Int), .int .u8 (s.toNat : Int)]) ∧ Below w.heap.size w w' := by
  go_enter Try.func25, Try.ntmps25
  go_wp2
  exact bodyPost_ret (v := .agg #[.int .u8 (f.toNat : Int), .int .u8 (c.toNat : Int), .int .u8 (r.toNat : Int), .int .u8 (e.toNat : Int), .int .u8 (s.toNat : Int)]) (by simp [results, Try.results25, go_sem]) rfl ⟨rfl, ((Below.refl _ _).alloc (Nat.le_refl _) _).alloc (by simp) _⟩
theorem list_any (f c r e s : UInt8) (w : World) : Calls Try.prog 27 #[.agg #[.int .u8 (f.toNat : Int), .int .u8 (c.toNat : Int), .int .u8 (r.toNat : Int), .int .u8 (e.toNat : Int), .int .u8 (s.toNat : Int)]] w fun x w' => x = .returned (.agg #[.int .u8 (f.toNat : Int), .int .u8 (c.toNat : Int), .int .u8 (r.toNat : Int), .int .u8 (e.toNat : Int), .int .u8 (s.toNat : Int)]) ∧ Below w.heap.size w w' := by
  go_enter Try.func27, Try.ntmps27
  go_wp2
  exact bodyPost_ret (v := .agg #[.int .u8 (f.toNat : Int), .int .u8 (c.toNat : Int), .int .u8 (r.toNat : Int), .int .u8 (e.toNat : Int), .int .u8 (s.toNat : Int)]) (by simp [results, Try.results27, go_sem]) rfl ⟨rfl, ((Below.refl _ _).alloc (Nat.le_refl _) _).alloc (by simp) _⟩
set_option maxRecDepth 100000 in
set_option maxHeartbeats 400000 in
theorem may_any (c : UInt8) (w : World) : Calls Try.prog 26 #[.int .u8 (c.toNat : Int)] w fun e w' => e = .returned (.bool (P.may c)) ∧ w = w' := by
  have hb := c.toNat_lt
  have hn : P.may c = decide (33 ≤ c.toNat ∧ c.toNat ≤ 126 ∧ ¬ (97 ≤ c.toNat ∧ c.toNat ≤ 122) ∧ ¬ (65 ≤ c.toNat ∧ c.toNat ≤ 90) ∧ ¬ (48 ≤ c.toNat ∧ c.toNat ≤ 57)) := rfl
  generalize P.may c = m at *
  generalize c.toNat = n at *
  have HN := Lib.hid hn
  clear hn
  have fin : ∀ v : Bool, m = v → Calls Try.prog 26 #[.int .u8 (n : Int)] w (fun e w' => e = .returned (.bool v) ∧ w = w') → Calls Try.prog 26 #[.int .u8 (n : Int)] w (fun e w' => e = .returned (.bool m) ∧ w = w') := fun v hv h => hv ▸ h
  rcases (by omega : n < 33 ∨ (33 ≤ n ∧ n < 48) ∨ (48 ≤ n ∧ n ≤ 57) ∨ (57 < n ∧ n < 65) ∨ (65 ≤ n ∧ n ≤ 90) ∨ (90 < n ∧ n < 97) ∨ (97 ≤ n ∧ n ≤ 122) ∨ (122 < n ∧ n ≤ 126) ∨ 126 < n) with h | ⟨h, h'⟩ | ⟨h, h'⟩ | ⟨h, h'⟩ | ⟨h, h'⟩ | ⟨h, h'⟩ | ⟨h, h'⟩ | ⟨h, h'⟩ | h
  · refine fin false (by rw [HN.out]; exact decide_eq_false (by omega)) ?_
    clear fin
    go_enter Try.func26, Try.ntmps26
    go_wp2
    all_goals (go_ret; exact ⟨rfl, rfl⟩)
  · refine fin true (by rw [HN.out]; exact decide_eq_true (by omega)) ?_
    clear fin
    go_enter Try.func26, Try.ntmps26
    go_wp2
    all_goals (go_ret; exact ⟨rfl, rfl⟩)
  · refine fin false (by rw [HN.out]; exact decide_eq_false (by omega)) ?_
    clear fin
    go_enter Try.func26, Try.ntmps26
    go_wp2
    all_goals (go_ret; exact ⟨rfl, rfl⟩)
  · refine fin true (by rw [HN.out]; exact decide_eq_true (by omega)) ?_
    clear fin
    go_enter Try.func26, Try.ntmps26
    go_wp2
    all_goals (go_ret; exact ⟨rfl, rfl⟩)
  · refine fin false (by rw [HN.out]; exact decide_eq_false (by omega)) ?_
    clear fin
    go_enter Try.func26, Try.ntmps26
    go_wp2
    all_goals (go_ret; exact ⟨rfl, rfl⟩)
  · refine fin true (by rw [HN.out]; exact decide_eq_true (by omega)) ?_
    clear fin
    go_enter Try.func26, Try.ntmps26
    go_wp2
    all_goals (go_ret; exact ⟨rfl, rfl⟩)
  · refine fin false (by rw [HN.out]; exact decide_eq_false (by omega)) ?_
    clear fin
    go_enter Try.func26, Try.ntmps26
    go_wp2
    all_goals (go_ret; exact ⟨rfl, rfl⟩)
  · refine fin true (by rw [HN.out]; exact decide_eq_true (by omega)) ?_
    clear fin
    go_enter Try.func26, Try.ntmps26
    go_wp2
    all_goals (go_ret; exact ⟨rfl, rfl⟩)
  · refine fin false (by rw [HN.out]; exact decide_eq_false (by omega)) ?_
    clear fin
    go_enter Try.func26, Try.ntmps26
    go_wp2
    all_goals (go_ret; exact ⟨rfl, rfl⟩)
end Go.Proofs.Ytefebcibcmjbaab
