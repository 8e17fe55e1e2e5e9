/- What bits.Put and bits.Add return: the plain functions' values; nothing that was there is written. For all ints of 64 bits. -/
import Derived.Test.YtefebcibcmjbaaaWords
import Derived.Test.YtefebcibcmjbaaaPlainBits
namespace Go.Proofs.Ytefebcibcmjbaaa
set_option linter.unusedVariables false
open Go.RowKit
set_option maxHeartbeats 400000 in
theorem add_any (a b : Int) (w : World) (ha : -9223372036854775808 ≤ a) (ha' : a ≤ 9223372036854775807) (hb : -9223372036854775808 ≤ b) (hb' : b ≤ 9223372036854775807) :
    Calls Try.prog 12 #[.int .i64 a, .int .i64 b] w fun e w' => e = .returned (.int .i64 (P.add a b)) ∧ w = w' := by
  have ea : max a 0 = if a < 0 then 0 else a := by omega
  have eb : max b 0 = if b < 0 then 0 else b := by omega
  have hp : P.add a b = if (if a < 0 then 0 else a) > 9223372036854775807 - (if b < 0 then 0 else b) then 9223372036854775807 else (if a < 0 then 0 else a) + (if b < 0 then 0 else b) := by rw [P.add, ea, eb]
  clear ea eb
  have HP := Lib.hid hp
  clear hp
  by_cases h1 : a < 0 <;> by_cases h2 : b < 0 <;>
  (by_cases h3 : (if a < 0 then 0 else a) > 9223372036854775807 - (if b < 0 then 0 else b)) <;>
  (simp only [h1, h2, if_true, if_false] at h3) <;>
  (go_enter Try.func12, Try.ntmps12
   go_wp2
   all_goals (go_ret; rw [HP.out]; first | (simp [h1, h2]; done) | (simp [h1, h2]; omega)))
set_option maxHeartbeats 400000 in
set_option maxRecDepth 20000 in
theorem put_any (v n : Int) (w : World) (ha : -9223372036854775808 ≤ v) (ha' : v ≤ 9223372036854775807) (hb : -9223372036854775808 ≤ n) (hb' : n ≤ 9223372036854775807) :
    Calls Try.prog 13 #[.int .i64 v, .int .i64 n] w fun e w' => e = .returned (.tuple #[.string ⟨(P.putS v n).toArray⟩, .int .i64 (P.putE v n)]) ∧ Below w.heap.size w w' := by
  by_cases h1 : 1 ≤ n ∧ n ≤ 7 ∧ 0 ≤ v
  · obtain ⟨h1, h2, h3⟩ := h1
    obtain ⟨v, rfl⟩ := Int.eq_ofNat_of_zero_le h3
    obtain ⟨n, rfl⟩ := Int.eq_ofNat_of_zero_le (by omega : 0 ≤ n)
    have H1 := Lib.hid ha
    have H2 := Lib.hid ha'
    clear ha ha' hb hb'
    have hpow : (2 : Int) ^ (8 * n) = ((256 ^ n : Nat) : Int) := by rw [Int.pow_mul]; simp
    have hpos : 0 < 256 ^ n := Nat.pow_pos (by omega)
    by_cases hd : v < 256 ^ n
    · have ht : ((v : Int) / 2 ^ (8 * n) != 0) = false := by rw [hpow, ← Int.natCast_ediv, Nat.div_eq_of_lt hd]; rfl
      have hok : P.putOk v n = true := by simp [P.putOk]; refine ⟨by omega, by omega, ?_⟩; exact_mod_cast hd
      have hS : P.putS v n = P.low n v := by simp [P.putS, hok]
      have hE : P.putE v n = 0 := by simp [P.putE, hok]
      rw [hS, hE]
      have hmk : ∀ W : World, (Instr.makeSlice 23 (.int .i64 n) (.int .i64 n)).run Try.prog W = .ok (.slice (some ⟨W.heap.size, 0, none⟩) n n) (W.alloc (.cells (cellsU8 (List.replicate n 0)) 5)) := fun W => make_bytes .i64 .i64 n n (by omega) (by omega) W
      have Hblk := Lib.hid (Blk.new w 5 (cellsU8 (List.replicate n 0)))
      clear hpow hpos hok hS hE hd
      go_enter Try.func13, Try.ntmps13
      go_wp2_with fail
      go_loopw [29] (fun x wr => ∃ i : Nat, i ≤ n ∧ x = .int .i64 i ∧ Blk wr w.heap.size 5 (cellsU8 (List.replicate (n - i) 0 ++ P.low i v)) ∧ Below w.heap.size w wr) (fun x _ => n - (intOf x).toNat)
      case atStart => exact ⟨0, by omega, rfl, by simpa [P.low] using Hblk.out, (Below.refl _ _).alloc (Nat.le_refl _) _⟩
      case round =>
        obtain ⟨i, hi, rfl, hblk, hbel⟩ := hrel
        by_cases hlt : i < n
        · have hcell := hblk.cell (n - 1 - i)
          have hfr := hblk.frozen (n - 1 - i)
          obtain ⟨u, hu⟩ : ∃ u, (cellsU8 (List.replicate (n - i) 0 ++ P.low i v))[n - 1 - i]? = some u := ⟨_, Array.getElem?_eq_getElem (by simp [cellsU8_size, P.low_length]; omega)⟩
          rw [hu] at hcell
          clear hu
          have Hs := Lib.hid (hblk.set_ (n - 1 - i) (.int .u8 (((UInt8.ofNat (v / 256 ^ i)).toNat : Nat) : Int)))
          have hv : ((v : Int) / 2 ^ (8 * i) % 256) = (((UInt8.ofNat (v / 256 ^ i)).toNat : Nat) : Int) := by
            rw [show (2 : Int) ^ (8 * i) = ((256 ^ i : Nat) : Int) from by rw [Int.pow_mul]; simp]
            simp
          have Hv := Lib.hid hv
          clear hv hblk
          go_wp2
          rw [Hv.out]
          go_roundw
          case rel =>
            refine ⟨i + 1, by omega, by go_num, ?_, hbel.setCell (by simp) _⟩
            have h := Hs.out
            rw [cellsU8_set] at h
            rw [show (P.low (i + 1) v) = UInt8.ofNat (v / 256 ^ i) :: P.low i v from rfl]
            have e : (List.replicate (n - i) (0 : UInt8) ++ P.low i v).set (n - 1 - i) (UInt8.ofNat (v / 256 ^ i)) = List.replicate (n - (i + 1)) 0 ++ UInt8.ofNat (v / 256 ^ i) :: P.low i v := by
              rw [show n - i = (n - (i + 1)) + 1 from by omega, show n - 1 - i = n - (i + 1) from by omega, List.replicate_succ', List.append_assoc]
              rw [List.set_append_right _ _ (by simp)]
              simp
            rw [e] at h
            exact h
          case measure => simp [intOf]; omega
        · have hin : i = n := by omega
          subst hin
          have hst := bytes_string (c := i) hblk (n := i) (by simp [P.low_length])
          rw [Nat.sub_self, List.replicate_zero, List.nil_append, List.take_of_length_le (by simp [P.low_length])] at hst
          go_wp2
          go_ret2
          exact ⟨rfl, hbel⟩
    · have ht : ((v : Int) / 2 ^ (8 * n) != 0) = true := by
        rw [hpow, ← Int.natCast_ediv]
        have : 0 < v / 256 ^ n := Nat.div_pos (by omega) hpos
        rw [bne_iff_ne]; omega
      have hok : P.putOk v n = false := by simp [P.putOk]; intro _ _; exact_mod_cast Nat.not_lt.1 hd
      have hS : P.putS v n = [] := by simp [P.putS, hok]
      have hE : P.putE v n = 1 := by simp [P.putE, hok]
      rw [hS, hE]
      clear hpow hpos hok hS hE hd
      go_enter Try.func13, Try.ntmps13
      go_wp2
      go_ret2
      exact ⟨rfl, Below.refl _ _⟩
  · have hf : P.putOk v n = false := by simp [P.putOk]; omega
    have hS : P.putS v n = [] := by simp [P.putS, hf]
    have hE : P.putE v n = 1 := by simp [P.putE, hf]
    rw [hS, hE]
    clear hf hS hE
    rcases (by omega : n < 1 ∨ (1 ≤ n ∧ 7 < n) ∨ (1 ≤ n ∧ n ≤ 7 ∧ v < 0)) with h | ⟨h, h'⟩ | ⟨h, h', h''⟩ <;>
    (go_enter Try.func13, Try.ntmps13
     go_wp2
     go_ret2
     exact ⟨rfl, Below.refl _ _⟩)
end Go.Proofs.Ytefebcibcmjbaaa
