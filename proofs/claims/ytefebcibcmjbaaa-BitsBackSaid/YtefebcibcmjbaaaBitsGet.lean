/- What bits.Get, bits.Number and the reference's return: the plain functions' values; the world as it was. -/
import Derived.Test.YtefebcibcmjbaaaI64
import Derived.Test.YtefebcibcmjbaaaPlainNum
namespace Go.Proofs.Ytefebcibcmjbaaa
set_option linter.unusedVariables false
open Go.RowKit
theorem take_snoc (s : ByteArray) (k : Nat) (h : k < s.size) : s.data.toList.take (k + 1) = s.data.toList.take k ++ [s[k]] := by
  rw [List.take_succ_eq_append_getElem (by simpa using h)]; rfl
theorem shl8 (m b : Nat) (hm : m < 36028797018963968) (hb : b < 256) : bits BinOp.or IntKind.i64 ((m : Int) * 256) (b : Int) = ((m * 256 + b : Nat) : Int) := by
  rw [show ((m : Int) * 256) = ((m * 256 : Nat) : Int) from by omega, i64_or_nat _ _ (by omega) (by omega), or_byte _ _ hb]
theorem pow_le7 {k : Nat} (h : k ≤ 6) : 256 ^ k ≤ 281474976710656 := by
  have := Nat.pow_le_pow_right (n := 256) (by omega) h
  simpa using this
set_option maxRecDepth 100000 in
set_option maxHeartbeats 400000 in
theorem get_any (s : ByteArray) (w : World) (hs : s.size ≤ maxLen) :
    Calls Try.prog 16 #[.string s] w fun e w' => e = .returned (.tuple #[.int .i64 (P.getV s.data.toList), .int .i64 (P.getE s.data.toList)]) ∧ w = w' := by
  unfold maxLen at hs
  by_cases h : 1 ≤ s.size ∧ s.size ≤ 7
  · have hV := Lib.hid (show P.getV s.data.toList = P.getN s.data.toList from by simp [P.getV, h])
    have hE := Lib.hid (show P.getE s.data.toList = 0 from by simp [P.getE, h])
    obtain ⟨h1, h2⟩ := h
    go_enter Try.func16, Try.ntmps16
    go_wp2
    go_loop [4, 16] (fun x i => ∃ k : Nat, k ≤ s.size ∧ i = .int .i64 k ∧ ∃ m : Nat, m = P.getN (s.data.toList.take k) ∧ x = .int .i64 m) (fun _ i => s.size - (intOf i).toNat)
    case atStart => exact ⟨0, by omega, rfl, 0, by simp [P.getN], rfl⟩
    case round =>
      obtain ⟨k, hk, rfl, m, hm, rfl⟩ := hrel
      have hlt0 := P.getN_lt (s.data.toList.take k)
      rw [← hm, List.length_take, Nat.min_eq_left (by simpa using hk)] at hlt0
      have Hm := Lib.hid hm
      clear hm
      by_cases hlt : k < s.size
      · have hb : s[k].toNat < 256 := s[k].toNat_lt
        have hp := pow_le7 (k := k) (by omega)
        have hm2 : m < 281474976710656 := by omega
        have hsn := take_snoc s k hlt
        have Hn := Lib.hid (show P.getN (s.data.toList.take (k + 1)) = m * 256 + s[k].toNat from by rw [hsn, P.getN_snoc, ← Hm.out])
        have Hb := Lib.hid (shl8 m s[k].toNat (by omega) hb)
        clear hsn hp hlt0
        go_wp2
        rw [Hb.out]
        go_round
        case rel => exact ⟨k + 1, by omega, by go_num, _, Hn.out.symm, rfl⟩
        case measure => simp [intOf]; omega
      · clear hlt0
        go_wp2
        go_ret2
        rw [hV.out, hE.out, show s.data.toList = s.data.toList.take k from (List.take_of_length_le (by simp; omega)).symm, ← Hm.out]
        exact ⟨rfl, rfl⟩
  · have hV : P.getV s.data.toList = 0 := by simp [P.getV]; omega
    have hE : P.getE s.data.toList = 1 := by simp [P.getE]; omega
    rw [hV, hE]
    clear hV hE
    rcases (by omega : s.size < 1 ∨ (1 ≤ s.size ∧ 7 < s.size)) with h | ⟨h, h'⟩ <;>
    (go_enter Try.func16, Try.ntmps16
     go_wp2
     go_ret2
     exact ⟨rfl, rfl⟩)
set_option maxRecDepth 100000 in
set_option maxHeartbeats 400000 in
theorem refGet_any (s : ByteArray) (w : World) (hs : s.size ≤ maxLen) :
    Calls Try.prog 17 #[.string s] w fun e w' => e = .returned (.tuple #[.int .i64 (P.getV s.data.toList), .int .i64 (P.getE s.data.toList)]) ∧ w = w' := by
  unfold maxLen at hs
  by_cases h : 1 ≤ s.size ∧ s.size ≤ 7
  · have hV := Lib.hid (show P.getV s.data.toList = P.getN s.data.toList from by simp [P.getV, h])
    have hE := Lib.hid (show P.getE s.data.toList = 0 from by simp [P.getE, h])
    obtain ⟨h1, h2⟩ := h
    go_enter Try.func17, Try.ntmps17
    go_wp2
    go_loop [4, 5] (fun x i => ∃ k : Nat, k ≤ s.size ∧ i = .int .i64 k ∧ ∃ m : Nat, m = P.getN (s.data.toList.take k) ∧ x = .int .i64 m) (fun _ i => s.size - (intOf i).toNat)
    case atStart => exact ⟨0, by omega, rfl, 0, by simp [P.getN], rfl⟩
    case round =>
      obtain ⟨k, hk, rfl, m, hm, rfl⟩ := hrel
      have hlt0 := P.getN_lt (s.data.toList.take k)
      rw [← hm, List.length_take, Nat.min_eq_left (by simpa using hk)] at hlt0
      have Hm := Lib.hid hm
      clear hm
      by_cases hlt : k < s.size
      · have hb : s[k].toNat < 256 := s[k].toNat_lt
        have hp := pow_le7 (k := k) (by omega)
        have hm2 : m < 281474976710656 := by omega
        have hsn := take_snoc s k hlt
        have Hn := Lib.hid (show P.getN (s.data.toList.take (k + 1)) = m * 256 + s[k].toNat from by rw [hsn, P.getN_snoc, ← Hm.out])
        clear hsn hp hlt0
        go_wp2
        go_round
        case rel => exact ⟨k + 1, by omega, by go_num, _, Hn.out.symm, by go_num⟩
        case measure => simp [intOf]; omega
      · clear hlt0
        go_wp2
        go_ret2
        rw [hV.out, hE.out, show s.data.toList = s.data.toList.take k from (List.take_of_length_le (by simp; omega)).symm, ← Hm.out]
        exact ⟨rfl, rfl⟩
  · have hV : P.getV s.data.toList = 0 := by simp [P.getV]; omega
    have hE : P.getE s.data.toList = 1 := by simp [P.getE]; omega
    rw [hV, hE]
    clear hV hE
    rcases (by omega : s.size < 1 ∨ (1 ≤ s.size ∧ 7 < s.size)) with h | ⟨h, h'⟩ <;>
    (go_enter Try.func17, Try.ntmps17
     go_wp2
     go_ret2
     exact ⟨rfl, rfl⟩)
end Go.Proofs.Ytefebcibcmjbaaa
