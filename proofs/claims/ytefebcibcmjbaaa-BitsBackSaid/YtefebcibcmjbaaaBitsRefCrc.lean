/- What the reference's Crc returns: the check sum of the plain file; the world as it was. -/
import Derived.Test.YtefebcibcmjbaaaI64
import Derived.Test.YtefebcibcmjbaaaPlainCrc
namespace Go.Proofs.Ytefebcibcmjbaaa
set_option linter.unusedVariables false
open Go.RowKit
theorem y8 (x : Nat) (b : UInt8) (h : x < 4294967296) : bits .xor .i64 (x : Int) (b.toNat : Int) = ((x ^^^ b.toNat : Nat) : Int) := i64_xor_nat _ _ (by omega) (by have := b.toNat_lt; omega)
theorem yxorpoly (z : Nat) (hz : z < 4294967296) (ho : z % 2 = 1) : bits BinOp.xor IntKind.i64 ((z : Int) / 2) 3988292384 = ((P.crcBit z : Nat) : Int) := by
  rw [show (3988292384 : Int) = ((3988292384 : Nat) : Int) from rfl, show ((z : Int) / 2) = ((z / 2 : Nat) : Int) from rfl, i64_xor_nat _ _ (by omega) (by omega)]
  simp [P.crcBit, ho, P.poly]
set_option maxRecDepth 100000 in
set_option maxHeartbeats 400000 in
theorem refCrc_any (s : ByteArray) (w : World) (hs : s.size ≤ maxLen) :
    Calls Try.prog 24 #[.string s] w fun e w' => e = .returned (.int .i64 (P.crc s.data.toList)) ∧ w = w' := by
  unfold maxLen at hs
  go_enter Try.func24, Try.ntmps24
  go_wp2
  go_loop [3, 4] (fun x i => ∃ k : Nat, k ≤ s.size ∧ i = .int .i64 k ∧ ∃ y : Nat, y < 4294967296 ∧ x = .int .i64 y ∧ P.crcFrom y (s.data.toList.drop k) = P.crcFrom P.ones s.data.toList) (fun _ i => s.size - (intOf i).toNat)
  case atStart => exact ⟨0, by omega, rfl, 4294967295, by omega, rfl, rfl⟩
  case round =>
    obtain ⟨k, hk, rfl, y, hy, rfl, hc⟩ := hrel
    have Hc := Lib.hid hc
    clear hc
    by_cases hlt : k < s.size
    · have hb : s[k].toNat < 256 := s[k].toNat_lt
      have hz : y ^^^ s[k].toNat < 4294967296 := Nat.xor_lt_two_pow (n := 32) hy (by omega)
      go_wp2
      rw [y8 y s[k] hy]
      go_loop [3, 5] (fun x i => ∃ j : Nat, j ≤ 8 ∧ i = .int .i64 j ∧ ∃ z : Nat, z < 4294967296 ∧ x = .int .i64 z ∧ P.crcBits (8 - j) z = P.crcByte y s[k]) (fun _ i => 8 - (intOf i).toNat)
      case atStart => exact ⟨0, by omega, rfl, _, hz, rfl, rfl⟩
      case round =>
        obtain ⟨j, hj, rfl, z, hz, rfl, hz2⟩ := hrel
        have Hz := Lib.hid hz2
        clear hz2
        by_cases hj8 : j < 8
        · by_cases hodd : z % 2 = 1
          · have ht : ((z : Int) % 2 == 1) = true := by simp; omega
            have e1 : bits BinOp.xor IntKind.i64 ((z : Int) / 2) 3988292384 = ((P.crcBit z : Nat) : Int) := yxorpoly z hz hodd
            have hl := P.crcBit_lt (x := z) hz
            have H1 := Lib.hid e1
            clear e1 hodd
            go_wp2
            go_round
            case rel => exact ⟨j + 1, by omega, by go_num, P.crcBit z, hl, by rw [H1.out], by rw [← Hz.out, show 8 - j = 8 - (j + 1) + 1 from by omega]; rfl⟩
            case measure => simp [intOf]; omega
          · have ht : ((z : Int) % 2 == 1) = false := by simp; omega
            have e1 : P.crcBit z = z / 2 := by simp [P.crcBit, hodd]
            have H1 := Lib.hid e1
            clear e1 hodd
            go_wp2
            go_round
            case rel => exact ⟨j + 1, by omega, by go_num, z / 2, by omega, by go_num, by rw [← Hz.out, show 8 - j = 8 - (j + 1) + 1 from by omega]; rw [show P.crcBits (8 - (j + 1) + 1) z = P.crcBits (8 - (j + 1)) (P.crcBit z) from rfl, H1.out]⟩
            case measure => simp [intOf]; omega
        · have hj : j = 8 := by omega
          subst hj
          have hd : s.data.toList.drop k = s[k] :: s.data.toList.drop (k + 1) := by rw [List.drop_eq_getElem_cons (by simpa using hlt)]; rfl
          have Hd := Lib.hid hd
          clear hd
          go_wp2
          go_round
          case rel => exact ⟨k + 1, by omega, by go_num, z, hz, rfl, by rw [← Hc.out, Hd.out]; have := Hz.out; simp only [Nat.sub_self] at this; unfold P.crcFrom; rw [List.foldl_cons, ← this]; rfl⟩
          case measure => simp [intOf]; omega
    · have he : y = P.crcFrom P.ones s.data.toList := by rw [← Hc.out, List.drop_eq_nil_of_le (by simpa using hlt)]; rfl
      have e1 : bits BinOp.xor IntKind.i64 (y : Int) 4294967295 = ((P.crc s.data.toList : Nat) : Int) := by
        rw [show (4294967295 : Int) = ((4294967295 : Nat) : Int) from rfl, i64_xor_nat _ _ (by omega) (by omega), he]; rfl
      have H1 := Lib.hid e1
      clear e1 he
      go_wp2
      go_ret
      refine ⟨?_, rfl⟩
      simp only
      show Ending.returned (Value.int .i64 _) = _
      rw [H1.out]
end Go.Proofs.Ytefebcibcmjbaaa
