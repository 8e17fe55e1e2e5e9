/- What the reference's Put and Add return: the plain functions' values. -/
import Derived.Test.YtefebcibcmjbaaaBitsPut
namespace Go.Proofs.Ytefebcibcmjbaaa
set_option linter.unusedVariables false
open Go.RowKit
theorem set_low (n k : Nat) (l : List UInt8) (b : UInt8) (hk : k < n) : (List.replicate (n - k) (0 : UInt8) ++ l).set (n - 1 - k) b = List.replicate (n - (k + 1)) 0 ++ b :: l := by
  rw [show n - k = (n - (k + 1)) + 1 from by omega, show n - 1 - k = n - (k + 1) from by omega, List.replicate_succ', List.append_assoc]
  rw [List.set_append_right _ _ (by simp)]
  simp
set_option maxRecDepth 100000 in
set_option maxHeartbeats 400000 in
theorem refPut_any (v n : Int) (w : World) (ha : -9223372036854775808 ≤ v) (ha' : v ≤ 9223372036854775807) (hb : -9223372036854775808 ≤ n) (hb' : n ≤ 9223372036854775807) :
    Calls Try.prog 15 #[.int .i64 v, .int .i64 n] w fun e w' => e = .returned (.tuple #[.string ⟨(P.putS v n).toArray⟩, .int .i64 (P.putE v n)]) ∧ Below w.heap.size w w' := by
  by_cases h1 : 1 ≤ n ∧ n ≤ 7 ∧ 0 ≤ v
  · obtain ⟨h1, h2, h3⟩ := h1
    obtain ⟨v, rfl⟩ := Int.eq_ofNat_of_zero_le h3
    obtain ⟨n, rfl⟩ := Int.eq_ofNat_of_zero_le (by omega : 0 ≤ n)
    have hmk : ∀ W : World, (Instr.makeSlice 23 (.int .i64 n) (.int .i64 n)).run Try.prog W = .ok (.slice (some ⟨W.heap.size, 0, none⟩) n n) (W.alloc (.cells (cellsU8 (List.replicate n 0)) 5)) := fun W => make_bytes .i64 .i64 n n (by omega) (by omega) W
    have Hblk := Lib.hid (Blk.new w 5 (cellsU8 (List.replicate n 0)))
    have Hok := Lib.hid (show P.putOk v n = decide (v < 256 ^ n) from by
      unfold P.putOk
      apply decide_eq_decide.2
      constructor
      · rintro ⟨_, _, _, h⟩; exact_mod_cast h
      · intro h; exact ⟨h1, h2, h3, by exact_mod_cast h⟩)
    go_enter Try.func15, Try.ntmps15
    go_wp2_with fail
    go_loopw [0, 7] (fun x y wr => ∃ k m : Nat, k ≤ n ∧ y = .int .i64 ((n : Int) - 1 - (k : Int)) ∧ x = .int .i64 m ∧ m ≤ v ∧ m = v / 256 ^ k ∧ Blk wr w.heap.size 5 (cellsU8 (List.replicate (n - k) 0 ++ P.low k v)) ∧ Below w.heap.size w wr) (fun _ y _ => (intOf y + 1).toNat)
    case atStart => exact ⟨0, v, by omega, by simp, rfl, by omega, by simp, by simpa [P.low] using Hblk.out, (Below.refl _ _).alloc (Nat.le_refl _) _⟩
    case round =>
      obtain ⟨k, m, hk, rfl, rfl, hmv, hm, hblk, hbel⟩ := hrel
      have Hm := Lib.hid hm
      by_cases hlt : k < n
      · have hcell := hblk.cell (n - 1 - k)
        have hfr := hblk.frozen (n - 1 - k)
        obtain ⟨u, hu⟩ : ∃ u, (cellsU8 (List.replicate (n - k) 0 ++ P.low k v))[n - 1 - k]? = some u := ⟨_, Array.getElem?_eq_getElem (by simp [cellsU8_size, P.low_length]; omega)⟩
        rw [hu] at hcell
        clear hu
        have hs := hblk.set_ (n - 1 - k) (.int .u8 (((UInt8.ofNat (v / 256 ^ k)).toNat : Nat) : Int))
        rw [cellsU8_set, set_low n k _ _ hlt] at hs
        have hv : (((UInt8.ofNat (v / 256 ^ k)).toNat : Nat) : Int) = (m : Int) % 256 := by rw [← hm]; simp
        rw [hv] at hs
        have Hs := Lib.hid hs
        clear hv hs hblk hm
        go_wp2
        go_roundw
        case rel => exact ⟨k + 1, m / 256, by omega, by congr 1; omega, by go_num, by omega, by rw [Hm.out, Nat.div_div_eq_div_mul, Nat.pow_succ], Hs.out, hbel.setCell (Nat.le_refl _) _⟩
        case measure => simp [intOf]; omega
      · have hkn : k = n := by omega
        subst hkn
        have hst := bytes_string (c := k) hblk (n := k) (by simp [P.low_length])
        rw [Nat.sub_self, List.replicate_zero, List.nil_append, List.take_of_length_le (by simp [P.low_length])] at hst
        clear hm hblk
        by_cases hm0 : 0 < m
        · have hok : P.putOk v k = false := by
            rw [Hok.out]
            apply decide_eq_false
            intro h
            have := Hm.out
            rw [Nat.div_eq_of_lt h] at this
            omega
          have HS := Lib.hid (show P.putS v k = [] from by simp [P.putS, hok])
          have HE := Lib.hid (show P.putE v k = 1 from by simp [P.putE, hok])
          clear hok
          go_wp2
          go_ret2
          rw [HS.out, HE.out]
          exact ⟨rfl, hbel⟩
        · have hok : P.putOk v k = true := by
            rw [Hok.out]
            apply decide_eq_true
            have h0 := Hm.out
            rcases Nat.lt_or_ge v (256 ^ k) with h | h
            · exact h
            · have : 0 < v / 256 ^ k := Nat.div_pos h (Nat.pow_pos (by omega))
              omega
          have HS := Lib.hid (show P.putS v k = P.low k v from by simp [P.putS, hok])
          have HE := Lib.hid (show P.putE v k = 0 from by simp [P.putE, hok])
          clear hok
          go_wp2
          go_ret2
          rw [HS.out, HE.out]
          exact ⟨rfl, hbel⟩
  · have hf : P.putOk v n = false := by simp [P.putOk]; omega
    have hS : P.putS v n = [] := by simp [P.putS, hf]
    have hE : P.putE v n = 1 := by simp [P.putE, hf]
    rw [hS, hE]
    clear hf hS hE
    rcases (by omega : n < 1 ∨ (1 ≤ n ∧ 7 < n) ∨ (1 ≤ n ∧ n ≤ 7 ∧ v < 0)) with h | ⟨h, h'⟩ | ⟨h, h', h''⟩ <;>
    (go_enter Try.func15, Try.ntmps15
     go_wp2
     go_ret2
     exact ⟨rfl, Below.refl _ _⟩)
set_option maxHeartbeats 400000 in
theorem refAdd_any (a b : Int) (w : World) (ha : -9223372036854775808 ≤ a) (ha' : a ≤ 9223372036854775807) (hb : -9223372036854775808 ≤ b) (hb' : b ≤ 9223372036854775807) :
    Calls Try.prog 28 #[.int .i64 a, .int .i64 b] w fun e w' => e = .returned (.int .i64 (P.add a b)) ∧ w = w' := by
  have ea : max a 0 = if a < 0 then 0 else a := by omega
  have eb : max b 0 = if b < 0 then 0 else b := by omega
  have hp : P.add a b = if (if a < 0 then 0 else a) > 9223372036854775807 - (if b < 0 then 0 else b) then 9223372036854775807 else (if a < 0 then 0 else a) + (if b < 0 then 0 else b) := by rw [P.add, ea, eb]
  clear ea eb
  have HP := Lib.hid hp
  clear hp
  by_cases h1 : a < 0 <;> by_cases h2 : b < 0 <;>
  (by_cases h3 : (if a < 0 then 0 else a) > 9223372036854775807 - (if b < 0 then 0 else b)) <;>
  (simp only [h1, h2, if_true, if_false] at h3) <;>
  (go_enter Try.func28, Try.ntmps28
   go_wp2
   all_goals (go_ret; rw [HP.out]; first | (simp [h1, h2]; done) | (simp [h1, h2]; omega)))
end Go.Proofs.Ytefebcibcmjbaaa
