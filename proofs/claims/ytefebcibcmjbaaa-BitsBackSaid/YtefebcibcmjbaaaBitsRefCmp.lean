/- What the reference's Compare returns: the order of bytes; nothing that was there is written. -/
import Derived.Test.YtefebcibcmjbaaaWords
import Derived.Test.YtefebcibcmjbaaaPlainCmp
import Derived.BigQuiet
import Derived.Deep.QuietTactic
namespace Go.Proofs.Ytefebcibcmjbaaa
set_option linter.unusedVariables false
open Go.RowKit Go.BigFrame
theorem drop_at (s : ByteArray) (k : Nat) (h : k < s.size) : s.data.toList.drop k = s[k] :: s.data.toList.drop (k + 1) := by
  rw [List.drop_eq_getElem_cons (by simpa using h)]; rfl
theorem drop_end (s : ByteArray) (k : Nat) (h : s.size ≤ k) : s.data.toList.drop k = [] := List.drop_eq_nil_of_le (by simpa using h)
set_option maxRecDepth 100000 in
set_option maxHeartbeats 1000000 in
theorem refCompare_any (a b : ByteArray) (w : World) (ha : a.size ≤ maxLen) (hb : b.size ≤ maxLen) :
    Calls Try.prog 27 #[.string a, .string b] w fun e w' => e = .returned (.int .i64 (P.cmp a.data.toList b.data.toList)) ∧ Below w.heap.size w w' := by
  unfold maxLen at ha hb
  go_enter Try.func27, Try.ntmps27
  go_wp2
  go_loopw [5] (fun x wr => ∃ k : Nat, k ≤ a.size ∧ k ≤ b.size ∧ x = .int .i64 k ∧ P.cmp (a.data.toList.drop k) (b.data.toList.drop k) = P.cmp a.data.toList b.data.toList ∧ Below w.heap.size w wr) (fun x _ => a.size - (intOf x).toNat)
  case atStart => exact ⟨0, by omega, by omega, rfl, rfl, Below.refl _ _⟩
  case round =>
    obtain ⟨k, hka, hkb, rfl, hc, hbel⟩ := hrel
    by_cases hlt : k < a.size ∧ k < b.size
    · obtain ⟨h1, h2⟩ := hlt
      rw [drop_at a k h1, drop_at b k h2] at hc
      simp only [P.cmp, Lib.compareBytes, UInt8.lt_iff_toNat_lt] at hc
      have hx := a[k].toNat_lt
      have hy := b[k].toNat_lt
      have Hc := Lib.hid hc
      clear hc
      have d1 : decide ((k : Int) < (a.size : Int)) = true := decide_eq_true (by omega)
      have d2 : decide ((k : Int) < (b.size : Int)) = true := decide_eq_true (by omega)
      go_wp2_with fail
      refine wp_region_ext (by kernel_rfl) (by kernel_rfl) ?_
      repeat (first | go_big_quiet_step (fail) | quiet_step (fail))
      refine wpQuiet_nil ?_
      intro w2 hb2
      have hbel2 := hbel.trans (hb2.mono hbel.size)
      clear hb2 hbel
      by_cases h3 : a[k].toNat < b[k].toNat
      · have hfin : P.cmp a.data.toList b.data.toList = -1 := by have := Hc.out; rw [if_pos h3] at this; exact this.symm
        have HF := Lib.hid hfin
        have hd : decide (a[k].toNat < b[k].toNat) = true := decide_eq_true h3
        clear hfin
        go_wp2
        go_ret
        rw [HF.out]
        exact ⟨rfl, hbel2⟩
      · have hd0 : decide (a[k].toNat < b[k].toNat) = false := decide_eq_false h3
        go_wp2_with fail
        refine wp_region_ext (by kernel_rfl) (by kernel_rfl) ?_
        repeat (first | go_big_quiet_step (fail) | quiet_step (fail))
        refine wpQuiet_nil ?_
        intro w3 hb3
        have hbel3 := hbel2.trans (hb3.mono hbel2.size)
        clear hb3 hbel2
        by_cases h4 : b[k].toNat < a[k].toNat
        · have hfin : P.cmp a.data.toList b.data.toList = 1 := by have := Hc.out; rw [if_neg h3, if_pos h4] at this; exact this.symm
          have HF := Lib.hid hfin
          have hd : decide (b[k].toNat < a[k].toNat) = true := decide_eq_true h4
          clear hfin
          go_wp2
          go_ret
          rw [HF.out]
          exact ⟨rfl, hbel3⟩
        · have hd : decide (b[k].toNat < a[k].toNat) = false := decide_eq_false h4
          have Hn := Lib.hid (show P.cmp (a.data.toList.drop (k + 1)) (b.data.toList.drop (k + 1)) = P.cmp a.data.toList b.data.toList from by have := Hc.out; rw [if_neg h3, if_neg h4] at this; exact this)
          go_wp2
          go_roundw
          case rel => exact ⟨k + 1, by omega, by omega, by go_num, Hn.out, hbel3⟩
          case measure => simp [intOf]; omega
    · rcases (by omega : (k = a.size ∧ a.size < b.size) ∨ (k = b.size ∧ b.size < a.size) ∨ (k = a.size ∧ k = b.size)) with ⟨h1, h2⟩ | ⟨h1, h2⟩ | ⟨h1, h2⟩
      · rw [drop_end a k (by omega), drop_at b k (by omega)] at hc
        have hfin : P.cmp a.data.toList b.data.toList = -1 := hc.symm
        have HF := Lib.hid hfin
        have h3 : a.size ≤ k := by omega
        clear hfin hc h1 hlt
        have d1 : decide ((k : Int) < (a.size : Int)) = false := decide_eq_false (by omega)
        go_wp2
        go_ret
        rw [HF.out]
        exact ⟨rfl, hbel⟩
      · rw [drop_at a k (by omega), drop_end b k (by omega)] at hc
        have hfin : P.cmp a.data.toList b.data.toList = 1 := hc.symm
        have HF := Lib.hid hfin
        have h3 : b.size ≤ k := by omega
        have h4 : k < a.size := by omega
        clear hfin hc h1 hlt
        have d1 : decide ((k : Int) < (a.size : Int)) = true := decide_eq_true (by omega)
        have d2 : decide ((k : Int) < (b.size : Int)) = false := decide_eq_false (by omega)
        go_wp2
        go_ret
        rw [HF.out]
        exact ⟨rfl, hbel⟩
      · rw [drop_end a k (by omega), drop_end b k (by omega)] at hc
        have hfin : P.cmp a.data.toList b.data.toList = 0 := hc.symm
        have HF := Lib.hid hfin
        have h3 : a.size ≤ k := by omega
        have h4 : b.size ≤ k := by omega
        clear hfin hc h1 h2 hlt
        have d1 : decide ((k : Int) < (a.size : Int)) = false := decide_eq_false (by omega)
        go_wp2
        go_ret
        rw [HF.out]
        exact ⟨rfl, hbel⟩
end Go.Proofs.Ytefebcibcmjbaaa
