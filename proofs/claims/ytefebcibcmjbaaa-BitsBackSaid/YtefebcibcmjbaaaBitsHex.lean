/- What bits.Nibble, bits.Hex, bits.Unhex return. -/
import Derived.Test.YtefebcibcmjbaaaOwn
import Derived.Test.YtefebcibcmjbaaaI64
import Derived.Test.YtefebcibcmjbaaaPlainHex
import Derived.Deep.RegionLaw
namespace Go.Proofs.Ytefebcibcmjbaaa
set_option linter.unusedVariables false
open Go.RowKit Go.BigFrame
set_option maxRecDepth 100000 in
set_option maxHeartbeats 400000 in
theorem nibble_any (c : UInt8) (w : World) :
    Calls Try.prog 30 #[.int .u8 (c.toNat : Int)] w fun e w' => e = .returned (.int .i64 (P.nib c)) ∧ w = w' := by
  have hb := c.toNat_lt
  have hn : P.nib c = if 48 ≤ c.toNat ∧ c.toNat ≤ 57 then (c.toNat : Int) - 48 else if 97 ≤ c.toNat ∧ c.toNat ≤ 102 then (c.toNat : Int) - 87 else if 65 ≤ c.toNat ∧ c.toNat ≤ 70 then (c.toNat : Int) - 55 else -1 := rfl
  generalize P.nib c = r at *
  generalize c.toNat = n at *
  rcases (by omega : n < 48 ∨ (48 ≤ n ∧ n ≤ 57) ∨ (57 < n ∧ n < 65) ∨ (65 ≤ n ∧ n ≤ 70) ∨ (70 < n ∧ n < 97) ∨ (97 ≤ n ∧ n ≤ 102) ∨ (102 < n)) with h | ⟨h, h'⟩ | ⟨h, h'⟩ | ⟨h, h'⟩ | ⟨h, h'⟩ | ⟨h, h'⟩ | h <;>
  (have hr : r = if 48 ≤ n ∧ n ≤ 57 then (n : Int) - 48 else if 97 ≤ n ∧ n ≤ 102 then (n : Int) - 87 else if 65 ≤ n ∧ n ≤ 70 then (n : Int) - 55 else -1 := hn
   have HR := Lib.hid hr
   clear hn hr
   go_enter Try.func30, Try.ntmps30
   go_wp2
   go_ret
   refine ⟨?_, rfl⟩
   have h2 := HR.out
   repeat (first | rw [if_pos (by omega)] at h2 | rw [if_neg (by omega)] at h2)
   rw [h2]
   first | rfl | (refine congrArg (fun x => Ending.returned (Value.int .i64 x)) ?_; omega))
theorem take_snoc (s : ByteArray) (k : Nat) (h : k < s.size) : s.data.toList.take (k + 1) = s.data.toList.take k ++ [s[k]] := by
  rw [List.take_succ_eq_append_getElem (by simpa using h)]; rfl
theorem small {p : Nat → Prop} (h : p 0 ∧ p 1 ∧ p 2 ∧ p 3 ∧ p 4 ∧ p 5 ∧ p 6 ∧ p 7 ∧ p 8 ∧ p 9 ∧ p 10 ∧ p 11 ∧ p 12 ∧ p 13 ∧ p 14 ∧ p 15) (n : Nat) (hn : n < 16) : p n := by
  obtain ⟨h0, h1, h2, h3, h4, h5, h6, h7, h8, h9, h10, h11, h12, h13, h14, h15⟩ := h
  rcases (by omega : n = 0 ∨ n = 1 ∨ n = 2 ∨ n = 3 ∨ n = 4 ∨ n = 5 ∨ n = 6 ∨ n = 7 ∨ n = 8 ∨ n = 9 ∨ n = 10 ∨ n = 11 ∨ n = 12 ∨ n = 13 ∨ n = 14 ∨ n = 15) with rfl | rfl | rfl | rfl | rfl | rfl | rfl | rfl | rfl | rfl | rfl | rfl | rfl | rfl | rfl | rfl <;> assumption
theorem index_hex (W : World) (n : Nat) (hn : n < 16) : (Instr.index 9 (.string ⟨#[48, 49, 50, 51, 52, 53, 54, 55, 56, 57, 97, 98, 99, 100, 101, 102]⟩) (.int .u8 (n : Int))).run Try.prog W = .ok (.int .u8 ((P.hd n).toNat : Int)) W := by
  refine small (p := fun n => (Instr.index 9 (.string ⟨#[48, 49, 50, 51, 52, 53, 54, 55, 56, 57, 97, 98, 99, 100, 101, 102]⟩) (.int .u8 (n : Int))).run Try.prog W = .ok (.int .u8 ((P.hd n).toNat : Int)) W) ?_ n hn
  exact ⟨by kernel_rfl, by kernel_rfl, by kernel_rfl, by kernel_rfl, by kernel_rfl, by kernel_rfl, by kernel_rfl, by kernel_rfl, by kernel_rfl, by kernel_rfl, by kernel_rfl, by kernel_rfl, by kernel_rfl, by kernel_rfl, by kernel_rfl, by kernel_rfl⟩
theorem and15 (b : Nat) (hb : b < 256) : bits BinOp.and IntKind.u8 (b : Int) 15 = ((b % 16 : Nat) : Int) := by
  rw [show (15 : Int) = ((15 : Nat) : Int) from rfl, u8_and_nat _ _ hb (by omega)]
  congr 1
  exact Nat.and_two_pow_sub_one_eq_mod b 4
set_option maxRecDepth 100000 in
set_option maxHeartbeats 400000 in
theorem hex_any (s : ByteArray) (w : World) (hs : s.size ≤ 140737488351232) :
    Calls Try.prog 25 #[.string s] w fun e w' => e = .returned (.string ⟨(P.hex s.data.toList).toArray⟩) ∧ Below w.heap.size w w' := by
  have hmk : ∀ W : World, (Instr.makeSlice 23 (.int .i64 0) (.int .i64 (2 * (s.size : Int)))).run Try.prog W = .ok (.slice (some ⟨W.heap.size, 0, none⟩) 0 (2 * s.size)) (W.alloc (.cells (cellsU8 (List.replicate (2 * s.size) 0)) 5)) := fun W => by
    have := make_bytes .i64 .i64 0 (2 * s.size) (by omega) (by omega) W
    rw [show (((2 * s.size : Nat)) : Int) = 2 * (s.size : Int) from by omega] at this
    exact this
  have Hown := Lib.hid (OwnB.made w (2 * s.size) (by unfold maxLen; omega))
  go_enter Try.func25, Try.ntmps25
  go_wp2_with fail
  go_loopw [3, 11] (fun v x wr => ∃ k : Nat, k ≤ s.size ∧ x = .int .i64 k ∧ v = .slice (some ⟨w.heap.size, 0, none⟩) (P.hex (s.data.toList.take k)).length (2 * s.size) ∧ OwnB wr w.heap.size v (P.hex (s.data.toList.take k)) ∧ Below w.heap.size w wr) (fun _ x _ => s.size - (intOf x).toNat)
  case atStart => exact ⟨0, by omega, rfl, rfl, Hown.out, (Below.refl _ _).alloc (Nat.le_refl _) _⟩
  case round =>
    obtain ⟨k, hk, rfl, rfl, hown, hbel⟩ := hrel
    by_cases hlt : k < s.size
    · have hb : s[k].toNat < 256 := s[k].toNat_lt
      have ha := and15 s[k].toNat hb
      have hi1 : ∀ W : World, _ := fun W => index_hex W (s[k].toNat / 16) (by omega)
      rw [show ((s[k].toNat / 16 : Nat) : Int) = (s[k].toNat : Int) / 16 from by omega] at hi1
      have hi2 : ∀ W : World, _ := fun W => index_hex W (s[k].toNat % 16) (by omega)
      rw [show ((s[k].toNat % 16 : Nat) : Int) = (s[k].toNat : Int) % 16 from by omega] at hi2
      rw [show ((s[k].toNat % 16 : Nat) : Int) = (s[k].toNat : Int) % 16 from by omega] at ha
      have hsn := take_snoc s k hlt
      have HS := Lib.hid (show P.hex (s.data.toList.take (k + 1)) = P.hex (s.data.toList.take k) ++ P.hexB s[k] from by rw [hsn, P.hex_snoc])
      clear hsn
      have hl := P.hex_length (s.data.toList.take k)
      rw [List.length_take, Nat.min_eq_left (by simpa using hk)] at hl
      have HL := Lib.hid hl
      clear hl
      generalize P.hex (s.data.toList.take k) = l at *
      go_wp2_with fail
      go_region_law (refine step_append_bytes_fits rfl (.tmp 14) (.tmp 25) rfl w.heap.size w.heap.size (2 * s.size) l (by simp [Act.eval]) (hown.drew.alloc _) ⟨wr.heap.size, 0, none⟩ 2 2 (P.hexB s[k]) (by simp [Act.eval]) rfl (newsU8 wr 5 (P.hexB s[k])) (by have := HL.out; omega) (by have := hbel.size; simp; omega) ?_; intro w2 hown2 hbel2)
      all_goals
        have Hb2 := Lib.hid (show Below w.heap.size w w2 from (hbel.drew.alloc (by have := hbel.size; simpa using this) _).trans hbel2)
        clear hbel2
        go_wp2
        go_roundw
        case rel => exact ⟨k + 1, by omega, by go_num, by rw [HS.out]; simp, by rw [HS.out]; simpa using hown2, Hb2.out⟩
        case measure => simp [intOf]; omega
    · have hkn : k = s.size := by omega
      subst hkn
      have HT := Lib.hid (show P.hex (s.data.toList.take s.size) = P.hex s.data.toList from by rw [List.take_of_length_le (by simp)])
      generalize P.hex (s.data.toList.take s.size) = l at *
      have hst := hown.string
      clear hown
      go_wp2
      go_ret
      rw [← HT.out]
      exact ⟨rfl, hbel⟩
set_option maxRecDepth 100000 in
set_option maxHeartbeats 400000 in
theorem refHex_any (s : ByteArray) (w : World) (hs : s.size ≤ 140737488351232) :
    Calls Try.prog 26 #[.string s] w fun e w' => e = .returned (.string ⟨(P.hex s.data.toList).toArray⟩) ∧ Below w.heap.size w w' := by
  have hmk : ∀ W : World, (Instr.makeSlice 23 (.int .i64 0) (.int .i64 (2 * (s.size : Int)))).run Try.prog W = .ok (.slice (some ⟨W.heap.size, 0, none⟩) 0 (2 * s.size)) (W.alloc (.cells (cellsU8 (List.replicate (2 * s.size) 0)) 5)) := fun W => by
    have := make_bytes .i64 .i64 0 (2 * s.size) (by omega) (by omega) W
    rw [show (((2 * s.size : Nat)) : Int) = 2 * (s.size : Int) from by omega] at this
    exact this
  have Hown := Lib.hid (OwnB.made w (2 * s.size) (by unfold maxLen; omega))
  go_enter Try.func26, Try.ntmps26
  go_wp2_with fail
  go_loopw [3, 4] (fun v x wr => ∃ k : Nat, k ≤ s.size ∧ x = .int .i64 k ∧ v = .slice (some ⟨w.heap.size, 0, none⟩) (P.hex (s.data.toList.take k)).length (2 * s.size) ∧ OwnB wr w.heap.size v (P.hex (s.data.toList.take k)) ∧ Below w.heap.size w wr) (fun _ x _ => s.size - (intOf x).toNat)
  case atStart => exact ⟨0, by omega, rfl, rfl, Hown.out, (Below.refl _ _).alloc (Nat.le_refl _) _⟩
  case round =>
    obtain ⟨k, hk, rfl, rfl, hown, hbel⟩ := hrel
    by_cases hlt : k < s.size
    · have hb : s[k].toNat < 256 := s[k].toNat_lt
      have hw1 : IntKind.u8.wrap ((s[k].toNat : Int) / 16) = (s[k].toNat : Int) / 16 := by rw [IntKind.wrap_u8']; omega
      have hw2 : ((s[k].toNat : Int)).tmod 16 = (s[k].toNat : Int) % 16 := Int.tmod_eq_emod_of_nonneg (by omega)
      have hi1 : ∀ W : World, _ := fun W => index_hex W (s[k].toNat / 16) (by omega)
      rw [show ((s[k].toNat / 16 : Nat) : Int) = (s[k].toNat : Int) / 16 from by omega] at hi1
      have hi2 : ∀ W : World, _ := fun W => index_hex W (s[k].toNat % 16) (by omega)
      rw [show ((s[k].toNat % 16 : Nat) : Int) = (s[k].toNat : Int) % 16 from by omega] at hi2
      have hsn := take_snoc s k hlt
      have HS := Lib.hid (show P.hex (s.data.toList.take (k + 1)) = P.hex (s.data.toList.take k) ++ P.hexB s[k] from by rw [hsn, P.hex_snoc])
      clear hsn
      have hl := P.hex_length (s.data.toList.take k)
      rw [List.length_take, Nat.min_eq_left (by simpa using hk)] at hl
      have HL := Lib.hid hl
      clear hl
      generalize P.hex (s.data.toList.take k) = l at *
      go_wp2_with fail
      go_region_law (refine step_append_bytes_fits rfl (.tmp 15) (.tmp 26) rfl w.heap.size w.heap.size (2 * s.size) l (by simp [Act.eval]) (hown.drew.alloc _) ⟨wr.heap.size, 0, none⟩ 2 2 (P.hexB s[k]) (by simp [Act.eval]) rfl (newsU8 wr 5 (P.hexB s[k])) (by have := HL.out; omega) (by have := hbel.size; simp; omega) ?_; intro w2 hown2 hbel2)
      all_goals
        have Hb2 := Lib.hid (show Below w.heap.size w w2 from (hbel.drew.alloc (by have := hbel.size; simpa using this) _).trans hbel2)
        clear hbel2
        go_wp2
        go_roundw
        case rel => exact ⟨k + 1, by omega, by go_num, by rw [HS.out]; simp, by rw [HS.out]; simpa using hown2, Hb2.out⟩
        case measure => simp [intOf]; omega
    · have hkn : k = s.size := by omega
      subst hkn
      have HT := Lib.hid (show P.hex (s.data.toList.take s.size) = P.hex s.data.toList from by rw [List.take_of_length_le (by simp)])
      generalize P.hex (s.data.toList.take s.size) = l at *
      have hst := hown.string
      clear hown
      go_wp2
      go_ret
      rw [← HT.out]
      exact ⟨rfl, hbel⟩
end Go.Proofs.Ytefebcibcmjbaaa
