/- What escape's letter and sign, and the reference's letter return. -/
import Derived.Test.YtefebcibcmjbaabDelim4
import Derived.Test.YtefebcibcmjbaabPlainEsc
namespace Go.Proofs.Ytefebcibcmjbaab
set_option linter.unusedVariables false
open Go.RowKit Go.BigFrame
theorem eq_cast {x y : UInt8} (h : x = y) : ((x.toNat : Int) == (y.toNat : Int)) = true := by rw [h]; simp
set_option maxRecDepth 100000 in
set_option maxHeartbeats 1000000 in
theorem letter_any (f c r e s b : UInt8) (w : World) : Calls Try.prog 28 #[.agg #[.int .u8 (f.toNat : Int), .int .u8 (c.toNat : Int), .int .u8 (r.toNat : Int), .int .u8 (e.toNat : Int), .int .u8 (s.toNat : Int)], .int .u8 (b.toNat : Int)] w fun x w' => x = .returned (.int .u8 ((P.letter f c r e s b).toNat : Int)) ∧ Below w.heap.size w w' := by
  generalize hl : P.letter f c r e s b = l
  have HL := Lib.hid hl
  clear hl
  by_cases h1 : b = f
  · have t1 := eq_cast h1
    have HV := Lib.hid (show l = 70 from by rw [← HL.out]; unfold P.letter;  rw [if_pos h1])
    clear h1
    go_enter Try.func28, Try.ntmps28
    go_wp2
    go_ret
    rw [HV.out]
    exact ⟨rfl, (Below.refl _ _).alloc (Nat.le_refl _) _⟩
  have t1 := ne_cast h1
  by_cases h2 : b = c
  · have t2 := eq_cast h2
    have HV := Lib.hid (show l = 83 from by rw [← HL.out]; unfold P.letter; rw [if_neg h1]; rw [if_pos h2])
    clear h1 h2
    go_enter Try.func28, Try.ntmps28
    go_wp2
    go_ret
    rw [HV.out]
    exact ⟨rfl, (Below.refl _ _).alloc (Nat.le_refl _) _⟩
  have t2 := ne_cast h2
  by_cases h3 : b = s
  · have t3 := eq_cast h3
    have HV := Lib.hid (show l = 84 from by rw [← HL.out]; unfold P.letter; rw [if_neg h1]; rw [if_neg h2]; rw [if_pos h3])
    clear h1 h2 h3
    go_enter Try.func28, Try.ntmps28
    go_wp2
    go_ret
    rw [HV.out]
    exact ⟨rfl, (Below.refl _ _).alloc (Nat.le_refl _) _⟩
  have t3 := ne_cast h3
  by_cases h4 : b = r
  · have t4 := eq_cast h4
    have HV := Lib.hid (show l = 82 from by rw [← HL.out]; unfold P.letter; rw [if_neg h1]; rw [if_neg h2]; rw [if_neg h3]; rw [if_pos h4])
    clear h1 h2 h3 h4
    go_enter Try.func28, Try.ntmps28
    go_wp2
    go_ret
    rw [HV.out]
    exact ⟨rfl, (Below.refl _ _).alloc (Nat.le_refl _) _⟩
  have t4 := ne_cast h4
  by_cases h5 : b = e
  · have t5 := eq_cast h5
    have HV := Lib.hid (show l = 69 from by rw [← HL.out]; unfold P.letter; rw [if_neg h1]; rw [if_neg h2]; rw [if_neg h3]; rw [if_neg h4]; rw [if_pos h5])
    clear h1 h2 h3 h4 h5
    go_enter Try.func28, Try.ntmps28
    go_wp2
    go_ret
    rw [HV.out]
    exact ⟨rfl, (Below.refl _ _).alloc (Nat.le_refl _) _⟩
  have t5 := ne_cast h5
  have HV := Lib.hid (show l = 0 from by rw [← HL.out]; exact P.letter_zero.2 ⟨h1, h2, h3, h4, h5⟩)
  clear h1 h2 h3 h4 h5
  go_enter Try.func28, Try.ntmps28
  go_wp2
  go_ret
  rw [HV.out]
  exact ⟨rfl, (Below.refl _ _).alloc (Nat.le_refl _) _⟩
set_option maxRecDepth 100000 in
set_option maxHeartbeats 1000000 in
theorem refLetter_any (f c r e s b : UInt8) (w : World) : Calls Try.prog 29 #[.agg #[.int .u8 (f.toNat : Int), .int .u8 (c.toNat : Int), .int .u8 (r.toNat : Int), .int .u8 (e.toNat : Int), .int .u8 (s.toNat : Int)], .int .u8 (b.toNat : Int)] w fun x w' => x = .returned (.int .u8 ((P.letter f c r e s b).toNat : Int)) ∧ Below w.heap.size w w' := by
  generalize hl : P.letter f c r e s b = l
  have HL := Lib.hid hl
  clear hl
  by_cases h1 : b = f
  · have t1 := eq_cast h1
    have HV := Lib.hid (show l = 70 from by rw [← HL.out]; unfold P.letter;  rw [if_pos h1])
    clear h1
    go_enter Try.func29, Try.ntmps29
    go_wp2
    go_ret
    rw [HV.out]
    exact ⟨rfl, (Below.refl _ _).alloc (Nat.le_refl _) _⟩
  have t1 := ne_cast h1
  by_cases h2 : b = c
  · have t2 := eq_cast h2
    have HV := Lib.hid (show l = 83 from by rw [← HL.out]; unfold P.letter; rw [if_neg h1]; rw [if_pos h2])
    clear h1 h2
    go_enter Try.func29, Try.ntmps29
    go_wp2
    go_ret
    rw [HV.out]
    exact ⟨rfl, (Below.refl _ _).alloc (Nat.le_refl _) _⟩
  have t2 := ne_cast h2
  by_cases h3 : b = s
  · have t3 := eq_cast h3
    have HV := Lib.hid (show l = 84 from by rw [← HL.out]; unfold P.letter; rw [if_neg h1]; rw [if_neg h2]; rw [if_pos h3])
    clear h1 h2 h3
    go_enter Try.func29, Try.ntmps29
    go_wp2
    go_ret
    rw [HV.out]
    exact ⟨rfl, (Below.refl _ _).alloc (Nat.le_refl _) _⟩
  have t3 := ne_cast h3
  by_cases h4 : b = r
  · have t4 := eq_cast h4
    have HV := Lib.hid (show l = 82 from by rw [← HL.out]; unfold P.letter; rw [if_neg h1]; rw [if_neg h2]; rw [if_neg h3]; rw [if_pos h4])
    clear h1 h2 h3 h4
    go_enter Try.func29, Try.ntmps29
    go_wp2
    go_ret
    rw [HV.out]
    exact ⟨rfl, (Below.refl _ _).alloc (Nat.le_refl _) _⟩
  have t4 := ne_cast h4
  by_cases h5 : b = e
  · have t5 := eq_cast h5
    have HV := Lib.hid (show l = 69 from by rw [← HL.out]; unfold P.letter; rw [if_neg h1]; rw [if_neg h2]; rw [if_neg h3]; rw [if_neg h4]; rw [if_pos h5])
    clear h1 h2 h3 h4 h5
    go_enter Try.func29, Try.ntmps29
    go_wp2
    go_ret
    rw [HV.out]
    exact ⟨rfl, (Below.refl _ _).alloc (Nat.le_refl _) _⟩
  have t5 := ne_cast h5
  have HV := Lib.hid (show l = 0 from by rw [← HL.out]; exact P.letter_zero.2 ⟨h1, h2, h3, h4, h5⟩)
  clear h1 h2 h3 h4 h5
  go_enter Try.func29, Try.ntmps29
  go_wp2
  go_ret
  rw [HV.out]
  exact ⟨rfl, (Below.refl _ _).alloc (Nat.le_refl _) _⟩
set_option maxRecDepth 100000 in
set_option maxHeartbeats 1000000 in
theorem sign_any (f c r e s : UInt8) (t : ByteArray) (w : World) : Calls Try.prog 34 #[.agg #[.int .u8 (f.toNat : Int), .int .u8 (c.toNat : Int), .int .u8 (r.toNat : Int), .int .u8 (e.toNat : Int), .int .u8 (s.toNat : Int)], .string t] w fun x w' => x = .returned (.int .u8 ((P.sign f c r e s t.data.toList).toNat : Int)) ∧ Below w.heap.size w w' := by
  generalize hl : P.sign f c r e s t.data.toList = l
  have HL := Lib.hid hl
  clear hl
  by_cases h1 : t.data.toList = [70]
  · have t1 := Lib.hid (show t = ⟨#[70]⟩ from by cases t; rename_i d; cases d; simp at h1; rw [h1])
    have HV := Lib.hid (show l = f from by rw [← HL.out]; unfold P.sign;  rw [if_pos h1])
    clear h1 HL
    obtain rfl := t1.out
    go_enter Try.func34, Try.ntmps34
    go_wp2
    go_ret
    rw [HV.out]
    exact ⟨rfl, (Below.refl _ _).alloc (Nat.le_refl _) _⟩
  have t1 : (t.toList == [70]) = false := by rw [ByteArray.toList_eq]; simpa using h1
  by_cases h2 : t.data.toList = [83]
  · have t2 := Lib.hid (show t = ⟨#[83]⟩ from by cases t; rename_i d; cases d; simp at h2; rw [h2])
    have HV := Lib.hid (show l = c from by rw [← HL.out]; unfold P.sign; rw [if_neg h1]; rw [if_pos h2])
    clear h1 h2 HL
    obtain rfl := t2.out
    go_enter Try.func34, Try.ntmps34
    go_wp2
    go_ret
    rw [HV.out]
    exact ⟨rfl, (Below.refl _ _).alloc (Nat.le_refl _) _⟩
  have t2 : (t.toList == [83]) = false := by rw [ByteArray.toList_eq]; simpa using h2
  by_cases h3 : t.data.toList = [84]
  · have t3 := Lib.hid (show t = ⟨#[84]⟩ from by cases t; rename_i d; cases d; simp at h3; rw [h3])
    have HV := Lib.hid (show l = s from by rw [← HL.out]; unfold P.sign; rw [if_neg h1]; rw [if_neg h2]; rw [if_pos h3])
    clear h1 h2 h3 HL
    obtain rfl := t3.out
    go_enter Try.func34, Try.ntmps34
    go_wp2
    go_ret
    rw [HV.out]
    exact ⟨rfl, (Below.refl _ _).alloc (Nat.le_refl _) _⟩
  have t3 : (t.toList == [84]) = false := by rw [ByteArray.toList_eq]; simpa using h3
  by_cases h4 : t.data.toList = [82]
  · have t4 := Lib.hid (show t = ⟨#[82]⟩ from by cases t; rename_i d; cases d; simp at h4; rw [h4])
    have HV := Lib.hid (show l = r from by rw [← HL.out]; unfold P.sign; rw [if_neg h1]; rw [if_neg h2]; rw [if_neg h3]; rw [if_pos h4])
    clear h1 h2 h3 h4 HL
    obtain rfl := t4.out
    go_enter Try.func34, Try.ntmps34
    go_wp2
    go_ret
    rw [HV.out]
    exact ⟨rfl, (Below.refl _ _).alloc (Nat.le_refl _) _⟩
  have t4 : (t.toList == [82]) = false := by rw [ByteArray.toList_eq]; simpa using h4
  by_cases h5 : t.data.toList = [69]
  · have t5 := Lib.hid (show t = ⟨#[69]⟩ from by cases t; rename_i d; cases d; simp at h5; rw [h5])
    have HV := Lib.hid (show l = e from by rw [← HL.out]; unfold P.sign; rw [if_neg h1]; rw [if_neg h2]; rw [if_neg h3]; rw [if_neg h4]; rw [if_pos h5])
    clear h1 h2 h3 h4 h5 HL
    obtain rfl := t5.out
    go_enter Try.func34, Try.ntmps34
    go_wp2
    go_ret
    rw [HV.out]
    exact ⟨rfl, (Below.refl _ _).alloc (Nat.le_refl _) _⟩
  have t5 : (t.toList == [69]) = false := by rw [ByteArray.toList_eq]; simpa using h5
  have HV := Lib.hid (show l = 0 from by rw [← HL.out]; unfold P.sign; rw [if_neg h1, if_neg h2, if_neg h3, if_neg h4, if_neg h5])
  clear h1 h2 h3 h4 h5
  go_enter Try.func34, Try.ntmps34
  go_wp2
  go_ret
  rw [HV.out]
  exact ⟨rfl, (Below.refl _ _).alloc (Nat.le_refl _) _⟩
end Go.Proofs.Ytefebcibcmjbaab
