/- What bits.Digits returns: the digits of the number, a sign ahead of them where it is below 0; nothing that was there is written. For all ints of 64 bits. -/
import Derived.Test.YtefebcibcmjbaaaWords
import Derived.Test.YtefebcibcmjbaaaPlainBits
namespace Go.Proofs.Ytefebcibcmjbaaa
set_option linter.unusedVariables false
open Go.RowKit
theorem put48 (m : Nat) : ((48 : Int) + (m : Int) % 10) = (((UInt8.ofNat (48 + m % 10)).toNat : Nat) : Int) := by
  have h : 48 + m % 10 < 256 := by omega
  simp [Nat.mod_eq_of_lt h]
theorem set_digit (f : Nat) (acc : List UInt8) (b : UInt8) (hf : 1 ≤ f) : (List.replicate f (0 : UInt8) ++ acc).set (f - 1) b = List.replicate (f - 1) 0 ++ b :: acc := by
  obtain ⟨k, rfl⟩ : ∃ k, f = k + 1 := ⟨f - 1, by omega⟩
  rw [List.replicate_succ', List.append_assoc]
  simp only [Nat.add_sub_cancel]
  rw [List.set_append_right _ _ (by simp)]
  simp
set_option maxRecDepth 100000 in
set_option maxHeartbeats 400000 in
theorem digits_any (v : Int) (w : World) (ha : -9223372036854775808 ≤ v) (ha' : v ≤ 9223372036854775807) :
    Calls Try.prog 20 #[.int .i64 v] w fun e w' => e = .returned (.string ⟨(P.digits v).toArray⟩) ∧ Below w.heap.size w w' := by
  have Hblk := Lib.hid (Blk.new w 43 (cellsU8 (List.replicate 20 0)))
  by_cases hneg : v < 0
  · obtain ⟨n, hn⟩ : ∃ n : Nat, v = -(n : Int) := ⟨v.natAbs, by omega⟩
    subst hn
    have hd0 : decide (0 < n) = true := by simp; omega
    have hres : P.digits (-(n : Int)) = 45 :: P.digitsN 20 n := by simp [P.digits, (by omega : 0 < n)]
    have hN := P.digitsN_length 20 n 19 (by omega) (by omega)
    rw [hres]
    clear hres
    go_enter Try.func20, Try.ntmps20
    go_wp2
    rw [show IntKind.u64.wrap (-IntKind.u64.wrap (-(n : Int))) = (n : Int) from by simp only [IntKind.wrap_u64]; omega]
    go_loopw [4, 5] (fun x y wr => ∃ f m : Nat, ∃ acc : List UInt8, 1 ≤ f ∧ f ≤ 20 ∧ m < 10 ^ f ∧ acc.length = 20 - f ∧ y = .int .i64 f ∧ x = .int .u64 m ∧ m ≤ 9223372036854775808 ∧ P.digitsN f m ++ acc = P.digitsN 20 n ∧ Blk wr w.heap.size 43 (cellsU8 (List.replicate f 0 ++ acc)) ∧ Below w.heap.size w wr) (fun _ y _ => (intOf y).toNat)
    case atStart => exact ⟨20, n, [], by omega, by omega, by omega, rfl, rfl, rfl, by omega, by simp, by simpa [cellsU8] using Hblk.out, (Below.refl _ _).alloc (Nat.le_refl _) _⟩
    case round =>
      obtain ⟨f, m, acc, hf1, hf2, hm, hacc, rfl, rfl, hm2, hdig, hblk, hbel⟩ := hrel
      obtain ⟨f', rfl⟩ : ∃ k, f = k + 1 := ⟨f - 1, by omega⟩
      have hcell := hblk.cell f'
      have hfr := hblk.frozen f'
      obtain ⟨u, hu⟩ : ∃ u, (cellsU8 (List.replicate (f' + 1) 0 ++ acc))[f']? = some u := ⟨_, Array.getElem?_eq_getElem (by simp [cellsU8_size]; omega)⟩
      rw [hu] at hcell
      clear hu
      have hs := hblk.set_ f' (.int .u8 (((UInt8.ofNat (48 + m % 10)).toNat : Nat) : Int))
      have he := set_digit (f' + 1) acc (UInt8.ofNat (48 + m % 10)) hf1
      rw [Nat.add_sub_cancel] at he
      rw [cellsU8_set, he] at hs
      have hv := put48 m
      rw [← hv] at hs
      have Hs := Lib.hid hs
      clear hs he hv
      have hbel2 := Lib.hid (hbel.setCell (p := ⟨w.heap.size, f', none⟩) (Nat.le_refl _) (.int .u8 (48 + (m : Int) % 10)))
      by_cases hm0 : m / 10 = 0
      · have hfin : P.digitsN 20 n = UInt8.ofNat (48 + m % 10) :: acc := by rw [← hdig]; simp [P.digitsN, hm0]
        have ht : ((m : Int) / 10 == 0) = true := by simp; omega
        have Hfin := Lib.hid hfin
        have hf3 : 1 ≤ f' := by rw [hfin] at hN; simp at hN; omega
        have Hacc := Lib.hid hacc
        have Hdig := Lib.hid hdig
        have Hm0 := Lib.hid hm0
        clear hdig hfin hm0 hacc hm
        have hcell2 := hblk.cell (f' - 1)
        have hfr2 := hblk.frozen (f' - 1)
        obtain ⟨u2, hu2⟩ : ∃ u, (cellsU8 (List.replicate (f' + 1) 0 ++ acc))[f' - 1]? = some u := ⟨_, Array.getElem?_eq_getElem (by have := Hacc.out; simp [cellsU8_size]; omega)⟩
        rw [hu2] at hcell2
        clear hu2 hblk
        have hblk := Hs.out
        have Hs2 := hblk.set_ (f' - 1) (.int .u8 (((45 : UInt8).toNat : Nat) : Int))
        rw [cellsU8_set, set_digit f' _ _ hf3] at Hs2
        have hsl := slice_arr20 w.heap.size (f' - 1) (by omega)
        rw [show ((f' - 1 : Nat) : Int) = (f' : Int) - 1 from by omega] at hsl
        have hst := bytes_string_off (off := f' - 1) (n := 20 - (f' - 1)) (c := 20 - (f' - 1)) Hs2 (by have := Hacc.out; simp; omega)
        rw [show ((List.replicate (f' - 1) (0 : UInt8) ++ 45 :: UInt8.ofNat (48 + m % 10) :: acc).drop (f' - 1)).take (20 - (f' - 1)) = 45 :: P.digitsN 20 n from by
          rw [Hfin.out, List.drop_left' (by simp), List.take_of_length_le (by have := Hacc.out; simp; omega)]] at hst
        have hst : (convert 23 9 (Value.slice (some ⟨w.heap.size, f' - 1, none⟩) (20 - (f' - 1)) (20 - (f' - 1)))).run Try.prog ((wr.setCell ⟨w.heap.size, f', none⟩ (.int .u8 (48 + (m : Int) % 10))).setCell ⟨w.heap.size, f' - 1, none⟩ (.int .u8 45)) = .ok (.string ⟨(45 :: P.digitsN 20 n).toArray⟩) ((wr.setCell ⟨w.heap.size, f', none⟩ (.int .u8 (48 + (m : Int) % 10))).setCell ⟨w.heap.size, f' - 1, none⟩ (.int .u8 45)) := hst
        clear hblk
        go_wp2

        go_ret
        exact ⟨rfl, hbel2.out.setCell (Nat.le_refl _) _⟩
      · have hstep : P.digitsN f' (m / 10) ++ UInt8.ofNat (48 + m % 10) :: acc = P.digitsN 20 n := by rw [← hdig]; simp [P.digitsN, hm0]
        have ht : ((m : Int) / 10 == 0) = false := by simp; omega
        have hlt : m / 10 < 10 ^ f' := by rw [Nat.div_lt_iff_lt_mul (by omega), ← Nat.pow_succ]; exact hm
        have hf3 : 1 ≤ f' := by
          rcases Nat.eq_zero_or_pos f' with h | h
          · subst h; omega
          · exact h
        have Hst := Lib.hid hstep
        have Hlt := Lib.hid hlt
        have Hacc := Lib.hid hacc
        clear hstep hdig hm hlt hm0 hacc hblk
        go_wp2
        go_roundw
        case rel => exact ⟨f', m / 10, _, hf3, by omega, Hlt.out, by have := Hacc.out; simp; omega, by go_num, by go_num, by omega, Hst.out, Hs.out, hbel2.out⟩
        case measure => simp [intOf]
  · obtain ⟨n, rfl⟩ := Int.eq_ofNat_of_zero_le (by omega : 0 ≤ v)
    have hres : P.digits (n : Int) = P.digitsN 20 n := by simp [P.digits]
    have hN := P.digitsN_length 20 n 19 (by omega) (by omega)
    rw [hres]
    clear hres
    go_enter Try.func20, Try.ntmps20
    go_wp2
    go_loopw [4, 5] (fun x y wr => ∃ f m : Nat, ∃ acc : List UInt8, 1 ≤ f ∧ f ≤ 20 ∧ m < 10 ^ f ∧ acc.length = 20 - f ∧ y = .int .i64 f ∧ x = .int .u64 m ∧ m ≤ 9223372036854775808 ∧ P.digitsN f m ++ acc = P.digitsN 20 n ∧ Blk wr w.heap.size 43 (cellsU8 (List.replicate f 0 ++ acc)) ∧ Below w.heap.size w wr) (fun _ y _ => (intOf y).toNat)
    case atStart => exact ⟨20, n, [], by omega, by omega, by omega, rfl, rfl, rfl, by omega, by simp, by simpa [cellsU8] using Hblk.out, (Below.refl _ _).alloc (Nat.le_refl _) _⟩
    case round =>
      obtain ⟨f, m, acc, hf1, hf2, hm, hacc, rfl, rfl, hm2, hdig, hblk, hbel⟩ := hrel
      obtain ⟨f', rfl⟩ : ∃ k, f = k + 1 := ⟨f - 1, by omega⟩
      have hcell := hblk.cell f'
      have hfr := hblk.frozen f'
      obtain ⟨u, hu⟩ : ∃ u, (cellsU8 (List.replicate (f' + 1) 0 ++ acc))[f']? = some u := ⟨_, Array.getElem?_eq_getElem (by simp [cellsU8_size]; omega)⟩
      rw [hu] at hcell
      clear hu
      have hs := hblk.set_ f' (.int .u8 (((UInt8.ofNat (48 + m % 10)).toNat : Nat) : Int))
      have he := set_digit (f' + 1) acc (UInt8.ofNat (48 + m % 10)) hf1
      rw [Nat.add_sub_cancel] at he
      rw [cellsU8_set, he] at hs
      have hv := put48 m
      rw [← hv] at hs
      have Hs := Lib.hid hs
      clear hs he hv
      have hbel2 := Lib.hid (hbel.setCell (p := ⟨w.heap.size, f', none⟩) (Nat.le_refl _) (.int .u8 (48 + (m : Int) % 10)))
      by_cases hm0 : m / 10 = 0
      · have hfin : P.digitsN 20 n = UInt8.ofNat (48 + m % 10) :: acc := by rw [← hdig]; simp [P.digitsN, hm0]
        have ht : ((m : Int) / 10 == 0) = true := by simp; omega
        have Hfin := Lib.hid hfin
        have hf3 : 1 ≤ f' := by rw [hfin] at hN; simp at hN; omega
        have Hacc := Lib.hid hacc
        have Hdig := Lib.hid hdig
        have Hm0 := Lib.hid hm0
        clear hdig hfin hm0 hacc hm
        have hsl := slice_arr20 w.heap.size f' (by omega)
        have hst := bytes_string_off (off := f') (n := 20 - f') (c := 20 - f') Hs.out (by have := Hacc.out; simp; omega)
        rw [show ((List.replicate f' (0 : UInt8) ++ UInt8.ofNat (48 + m % 10) :: acc).drop f').take (20 - f') = P.digitsN 20 n from by
          rw [Hfin.out, List.drop_left' (by simp), List.take_of_length_le (by have := Hacc.out; simp; omega)]] at hst
        go_wp2

        go_ret
        exact ⟨rfl, hbel2.out⟩
      · have hstep : P.digitsN f' (m / 10) ++ UInt8.ofNat (48 + m % 10) :: acc = P.digitsN 20 n := by rw [← hdig]; simp [P.digitsN, hm0]
        have ht : ((m : Int) / 10 == 0) = false := by simp; omega
        have hlt : m / 10 < 10 ^ f' := by rw [Nat.div_lt_iff_lt_mul (by omega), ← Nat.pow_succ]; exact hm
        have hf3 : 1 ≤ f' := by
          rcases Nat.eq_zero_or_pos f' with h | h
          · subst h; omega
          · exact h
        have Hst := Lib.hid hstep
        have Hlt := Lib.hid hlt
        have Hacc := Lib.hid hacc
        clear hstep hdig hm hlt hm0 hacc hblk
        go_wp2
        go_roundw
        case rel => exact ⟨f', m / 10, _, hf3, by omega, Hlt.out, by have := Hacc.out; simp; omega, by go_num, by go_num, by omega, Hst.out, Hs.out, hbel2.out⟩
        case measure => simp [intOf]
end Go.Proofs.Ytefebcibcmjbaaa
