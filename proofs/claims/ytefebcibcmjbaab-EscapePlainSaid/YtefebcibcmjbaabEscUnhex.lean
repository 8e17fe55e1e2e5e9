/- What bits.Nibble, bits.Unhex, the reference's Digit and Unhex return (for the seats whose cut has no Hex). -/
import Derived.Test.YtefebcibcmjbaabOwn
import Derived.Test.YtefebcibcmjbaabI64
import Derived.Test.YtefebcibcmjbaabPlainHex
import Derived.Deep.RegionLaw
import Derived.BigQuiet
import Derived.Deep.QuietTactic
namespace Go.Proofs.Ytefebcibcmjbaab
set_option linter.unusedVariables false
open Go.RowKit Go.BigFrame
set_option maxRecDepth 100000 in
set_option maxHeartbeats 400000 in
theorem nibble_any (c : UInt8) (w : World) :
    Calls Try.prog 40 #[.int .u8 (c.toNat : Int)] w fun e w' => e = .returned (.int .i64 (P.nib c)) ∧ w = w' := by
  have hb := c.toNat_lt
  have hn : P.nib c = if 48 ≤ c.toNat ∧ c.toNat ≤ 57 then (c.toNat : Int) - 48 else if 97 ≤ c.toNat ∧ c.toNat ≤ 102 then (c.toNat : Int) - 87 else if 65 ≤ c.toNat ∧ c.toNat ≤ 70 then (c.toNat : Int) - 55 else -1 := rfl
  generalize P.nib c = r at *
  generalize c.toNat = n at *
  rcases (by omega : n < 48 ∨ (48 ≤ n ∧ n ≤ 57) ∨ (57 < n ∧ n < 65) ∨ (65 ≤ n ∧ n ≤ 70) ∨ (70 < n ∧ n < 97) ∨ (97 ≤ n ∧ n ≤ 102) ∨ (102 < n)) with h | ⟨h, h'⟩ | ⟨h, h'⟩ | ⟨h, h'⟩ | ⟨h, h'⟩ | ⟨h, h'⟩ | h <;>
  (have hr : r = if 48 ≤ n ∧ n ≤ 57 then (n : Int) - 48 else if 97 ≤ n ∧ n ≤ 102 then (n : Int) - 87 else if 65 ≤ n ∧ n ≤ 70 then (n : Int) - 55 else -1 := hn
   have HR := Lib.hid hr
   clear hn hr
   go_enter Try.func40, Try.ntmps40
   go_wp2
   go_ret
   refine ⟨?_, rfl⟩
   have h2 := HR.out
   repeat (first | rw [if_pos (by omega)] at h2 | rw [if_neg (by omega)] at h2)
   rw [h2]
   first | rfl | (refine congrArg (fun x => Ending.returned (Value.int .i64 x)) ?_; omega))
set_option maxRecDepth 100000 in
set_option maxHeartbeats 400000 in
theorem digit_any (c : UInt8) (w : World) :
    Calls Try.prog 41 #[.int .u8 (c.toNat : Int)] w fun e w' => e = .returned (.int .i64 (P.nib c)) ∧ w = w' := by
  have hb := c.toNat_lt
  have hn : P.nib c = if 48 ≤ c.toNat ∧ c.toNat ≤ 57 then (c.toNat : Int) - 48 else if 97 ≤ c.toNat ∧ c.toNat ≤ 102 then (c.toNat : Int) - 87 else if 65 ≤ c.toNat ∧ c.toNat ≤ 70 then (c.toNat : Int) - 55 else -1 := rfl
  generalize P.nib c = r at *
  generalize c.toNat = n at *
  rcases (by omega : n < 48 ∨ (48 ≤ n ∧ n ≤ 57) ∨ (57 < n ∧ n < 65) ∨ (65 ≤ n ∧ n ≤ 70) ∨ (70 < n ∧ n < 97) ∨ (97 ≤ n ∧ n ≤ 102) ∨ (102 < n)) with h | ⟨h, h'⟩ | ⟨h, h'⟩ | ⟨h, h'⟩ | ⟨h, h'⟩ | ⟨h, h'⟩ | h <;>
  (have hr : r = if 48 ≤ n ∧ n ≤ 57 then (n : Int) - 48 else if 97 ≤ n ∧ n ≤ 102 then (n : Int) - 87 else if 65 ≤ n ∧ n ≤ 70 then (n : Int) - 55 else -1 := hn
   have HR := Lib.hid hr
   clear hn hr
   go_enter Try.func41, Try.ntmps41
   go_wp2
   go_ret
   refine ⟨?_, rfl⟩
   have h2 := HR.out
   repeat (first | rw [if_pos (by omega)] at h2 | rw [if_neg (by omega)] at h2)
   rw [h2]
   first | rfl | (refine congrArg (fun x => Ending.returned (Value.int .i64 x)) ?_; omega))
theorem idx_atu (s : ByteArray) (k : Nat) (hk : k < s.size) {i : Int} (hi : i = (k : Int)) (W : World) : (Instr.index 9 (.string s) (.int .i64 i)).run Try.prog W = .ok (.int .u8 (s[k].toNat : Int)) W := by
  subst hi
  simp [go_sem, hk]
theorem unhex_any_cm (na nb : Nat) (ha : na < 16) (hb : nb < 16) : bits BinOp.or IntKind.i64 ((na : Int) * 16) (nb : Int) % 256 = (((UInt8.ofNat (16 * na + nb)).toNat : Nat) : Int) := by
  rw [show ((na : Int) * 16) = ((na * 16 : Nat) : Int) from by omega, i64_or_nat _ _ (by omega) (by omega)]
  have h := Nat.two_pow_add_eq_or_of_lt (i := 4) hb na
  rw [show 2 ^ 4 * na = na * 16 from by omega] at h
  rw [← h]
  simp; omega
set_option maxRecDepth 100000 in
set_option maxHeartbeats 1000000 in
theorem unhex_any (s : ByteArray) (w : World) (hs : s.size ≤ 281474976710656) :
    Calls Try.prog 36 #[.string s] w fun e w' => e = .returned (.tuple #[.string ⟨(P.unhexS s.data.toList).toArray⟩, .int .i64 (P.unhexE s.data.toList)]) ∧ Below w.heap.size w w' := by
  by_cases hodd : s.size % 2 = 1
  · have hu := P.unhex_odd s.data.toList (by simpa using hodd)
    have HS := Lib.hid (show P.unhexS s.data.toList = [] from by simp [P.unhexS, hu])
    have HE := Lib.hid (show P.unhexE s.data.toList = 10 from by simp [P.unhexE, hu])
    have ht : ((s.size : Int) % 2 != 0) = true := by rw [bne_iff_ne]; omega
    clear hu hodd
    go_enter Try.func36, Try.ntmps36
    go_wp2
    go_ret2
    rw [HS.out, HE.out]
    exact ⟨rfl, Below.refl _ _⟩
  · have ht : ((s.size : Int) % 2 != 0) = false := by rw [Bool.eq_false_iff, ne_eq, bne_iff_ne]; omega
    have hmk : ∀ W : World, (Instr.makeSlice 32 (.int .i64 0) (.int .i64 ((s.size : Int) / 2))).run Try.prog W = .ok (.slice (some ⟨W.heap.size, 0, none⟩) 0 (s.size / 2)) (W.alloc (.cells (cellsU8 (List.replicate (s.size / 2) 0)) 5)) := fun W => by
      have := make_bytes .i64 .i64 0 (s.size / 2) (by omega) (by omega) W
      rw [show (((s.size / 2 : Nat)) : Int) = (s.size : Int) / 2 from by omega] at this
      exact this
    have Hown := Lib.hid (OwnB.made w (s.size / 2) (by unfold maxLen; omega))
    go_enter Try.func36, Try.ntmps36
    go_wp2_with fail
    go_loopw [4, 5] (fun v x wr => ∃ k : Nat, ∃ acc : List UInt8, 2 * k ≤ s.size ∧ x = .int .i64 (2 * (k : Int)) ∧ acc.length = k ∧ v = .slice (some ⟨w.heap.size, 0, none⟩) acc.length (s.size / 2) ∧ P.unhex s.data.toList = (P.unhex (s.data.toList.drop (2 * k))).map (acc ++ ·) ∧ OwnB wr w.heap.size v acc ∧ Below w.heap.size w wr) (fun _ x _ => s.size - (intOf x).toNat)
    case atStart => exact ⟨0, [], by omega, by simp, rfl, rfl, by simp, Hown.out, (Below.refl _ _).alloc (Nat.le_refl _) _⟩
    case round =>
      obtain ⟨k, acc, hk, rfl, hacc, rfl, hun, hown, hbel⟩ := hrel
      by_cases hlt : 2 * k < s.size
      · have hlt2 : 2 * k + 1 < s.size := by omega
        have hd : s.data.toList.drop (2 * k) = s[2 * k] :: s[2 * k + 1] :: s.data.toList.drop (2 * k + 2) := by
          rw [List.drop_eq_getElem_cons (by simpa using hlt), List.drop_eq_getElem_cons (by simpa using hlt2)]; rfl
        rw [hd] at hun
        have hx16 := P.nib_lt s[2 * k]
        have hy16 := P.nib_lt s[2 * k + 1]
        have e1 : ∀ r : List UInt8, P.unhex (s[2 * k] :: s[2 * k + 1] :: r) = if P.nib s[2 * k] < 0 ∨ P.nib s[2 * k + 1] < 0 then none else (P.unhex r).map (UInt8.ofNat (16 * (P.nib s[2 * k]).toNat + (P.nib s[2 * k + 1]).toNat) :: ·) := fun r => rfl
        have hi1 : ∀ W : World, (Instr.index 9 (.string s) (.int .i64 (2 * (k : Int)))).run Try.prog W = .ok (.int .u8 (s[2 * k].toNat : Int)) W := fun W => idx_atu s (2 * k) hlt (by omega) W
        have hi2 : ∀ W : World, (Instr.index 9 (.string s) (.int .i64 (2 * (k : Int) + 1))).run Try.prog W = .ok (.int .u8 (s[2 * k + 1].toNat : Int)) W := fun W => idx_atu s (2 * k + 1) hlt2 (by omega) W
        rw [e1] at hun
        have HUN := Lib.hid hun
        have Hacc := Lib.hid hacc
        have hwr : IntKind.i64.wrap (2 * (k : Int) + 1) = 2 * (k : Int) + 1 := by rw [IntKind.wrap_i64]; omega
        clear hun e1 hd hacc
        go_wp2_with fail
        refine wp_region_ext (by kernel_rfl) (by kernel_rfl) ?_
        repeat (first | go_big_quiet_step ((go_at_call 40; exact Ext.calls_same _ (nibble_any _ _))) | quiet_step ((go_at_call 40; exact Ext.calls_same _ (nibble_any _ _))))
        refine wpQuiet_nil ?_
        intro w2 hb2
        have hbel2 := hbel.trans (hb2.mono hbel.size)
        have hown2 := hown.below hb2 (Nat.le_refl _)
        clear hbel hb2 hown hwr
        generalize P.nib s[2 * k] = x at *
        generalize P.nib s[2 * k + 1] = y at *
        by_cases hbad : x < 0 ∨ y < 0
        · have hun := HUN.out
          rw [if_pos hbad] at hun
          have HS := Lib.hid (show P.unhexS s.data.toList = [] from by simp [P.unhexS, hun])
          have HE := Lib.hid (show P.unhexE s.data.toList = 10 from by simp [P.unhexE, hun])
          clear hun
          rcases (by omega : x < 0 ∨ (0 ≤ x ∧ y < 0)) with h | ⟨h, h'⟩
          · clear hbad
            go_wp2
            go_ret2
            rw [HS.out, HE.out]
            exact ⟨rfl, hbel2⟩
          · clear hbad
            go_wp2
            go_ret2
            rw [HS.out, HE.out]
            exact ⟨rfl, hbel2⟩
        · have hun := HUN.out
          rw [if_neg hbad] at hun
          obtain ⟨na, rfl⟩ := Int.eq_ofNat_of_zero_le (by omega : 0 ≤ x)
          obtain ⟨nb, rfl⟩ := Int.eq_ofNat_of_zero_le (by omega : 0 ≤ y)
          have hcm := unhex_any_cm na nb (by omega) (by omega)
          have HUN2 := Lib.hid hun
          clear hbad hun
          have hle : acc.length + 1 ≤ s.size / 2 := by have := Hacc.out; omega
          go_wp2_with (at_builtin; refine wpList_append_bytes_fits rfl (.tmp 37) (.tmp 43) rfl w.heap.size w.heap.size (s.size / 2) acc rfl (hown2.alloc _) ⟨w2.heap.size, 0, none⟩ 1 1 [UInt8.ofNat (16 * na + nb)] rfl rfl (newsU8 w2 5 [UInt8.ofNat (16 * na + nb)]) (by simpa using hle) (by have := hbel2.size; simp; omega) ?_; intro w3 hown3 hbel3)
          have Hb3 := Lib.hid (show Below w.heap.size w w3 from (hbel2.alloc hbel2.size _).trans hbel3)
          clear hbel3 hcm
          go_wp2
          go_roundw
          case rel => exact ⟨k + 1, acc ++ [UInt8.ofNat (16 * na + nb)], by omega, by go_num, by have := Hacc.out; simp; omega, by simp, by
            have h := HUN2.out
            simp only [Int.toNat_natCast] at h
            rw [h, show 2 * (k + 1) = 2 * k + 2 from by omega, Option.map_map]
            congr 1
            funext z
            simp, by simpa using hown3, Hb3.out⟩
          case measure => simp [intOf]; omega
      · have hks : 2 * k = s.size := by omega
        have hun2 := hun
        rw [hks, List.drop_eq_nil_of_le (by simp)] at hun2
        have HS := Lib.hid (show P.unhexS s.data.toList = acc from by simp [P.unhexS, hun2, P.unhex])
        have HE := Lib.hid (show P.unhexE s.data.toList = 0 from by simp [P.unhexE, hun2, P.unhex])
        have hst := hown.string
        clear hun hun2 hown hacc hks
        go_wp2
        go_ret2
        rw [HS.out, HE.out]
        exact ⟨rfl, hbel⟩
theorem refUnhex_any_cm (na nb : Nat) (ha : na < 16) (hb : nb < 16) : (((UInt8.ofNat (16 * na + nb)).toNat : Nat) : Int) = 16 * (na : Int) + (nb : Int) := by
  simp; omega
set_option maxRecDepth 100000 in
set_option maxHeartbeats 1000000 in
theorem refUnhex_any (s : ByteArray) (w : World) (hs : s.size ≤ 281474976710656) :
    Calls Try.prog 37 #[.string s] w fun e w' => e = .returned (.tuple #[.string ⟨(P.unhexS s.data.toList).toArray⟩, .int .i64 (P.unhexE s.data.toList)]) ∧ Below w.heap.size w w' := by
  by_cases hodd : s.size % 2 = 1
  · have hu := P.unhex_odd s.data.toList (by simpa using hodd)
    have HS := Lib.hid (show P.unhexS s.data.toList = [] from by simp [P.unhexS, hu])
    have HE := Lib.hid (show P.unhexE s.data.toList = 10 from by simp [P.unhexE, hu])
    have ht : ((s.size : Int) % 2 != 0) = true := by rw [bne_iff_ne]; omega
    clear hu hodd
    go_enter Try.func37, Try.ntmps37
    go_wp2
    go_ret2
    rw [HS.out, HE.out]
    exact ⟨rfl, Below.refl _ _⟩
  · have ht : ((s.size : Int) % 2 != 0) = false := by rw [Bool.eq_false_iff, ne_eq, bne_iff_ne]; omega
    have hmk : ∀ W : World, (Instr.makeSlice 32 (.int .i64 0) (.int .i64 ((s.size : Int) / 2))).run Try.prog W = .ok (.slice (some ⟨W.heap.size, 0, none⟩) 0 (s.size / 2)) (W.alloc (.cells (cellsU8 (List.replicate (s.size / 2) 0)) 5)) := fun W => by
      have := make_bytes .i64 .i64 0 (s.size / 2) (by omega) (by omega) W
      rw [show (((s.size / 2 : Nat)) : Int) = (s.size : Int) / 2 from by omega] at this
      exact this
    have Hown := Lib.hid (OwnB.made w (s.size / 2) (by unfold maxLen; omega))
    go_enter Try.func37, Try.ntmps37
    go_wp2_with fail
    go_loopw [4, 5] (fun v x wr => ∃ k : Nat, ∃ acc : List UInt8, 2 * k ≤ s.size ∧ x = .int .i64 (2 * (k : Int)) ∧ acc.length = k ∧ v = .slice (some ⟨w.heap.size, 0, none⟩) acc.length (s.size / 2) ∧ P.unhex s.data.toList = (P.unhex (s.data.toList.drop (2 * k))).map (acc ++ ·) ∧ OwnB wr w.heap.size v acc ∧ Below w.heap.size w wr) (fun _ x _ => s.size - (intOf x).toNat)
    case atStart => exact ⟨0, [], by omega, by simp, rfl, rfl, by simp, Hown.out, (Below.refl _ _).alloc (Nat.le_refl _) _⟩
    case round =>
      obtain ⟨k, acc, hk, rfl, hacc, rfl, hun, hown, hbel⟩ := hrel
      by_cases hlt : 2 * k < s.size
      · have hlt2 : 2 * k + 1 < s.size := by omega
        have hd : s.data.toList.drop (2 * k) = s[2 * k] :: s[2 * k + 1] :: s.data.toList.drop (2 * k + 2) := by
          rw [List.drop_eq_getElem_cons (by simpa using hlt), List.drop_eq_getElem_cons (by simpa using hlt2)]; rfl
        rw [hd] at hun
        have hx16 := P.nib_lt s[2 * k]
        have hy16 := P.nib_lt s[2 * k + 1]
        have e1 : ∀ r : List UInt8, P.unhex (s[2 * k] :: s[2 * k + 1] :: r) = if P.nib s[2 * k] < 0 ∨ P.nib s[2 * k + 1] < 0 then none else (P.unhex r).map (UInt8.ofNat (16 * (P.nib s[2 * k]).toNat + (P.nib s[2 * k + 1]).toNat) :: ·) := fun r => rfl
        have hi1 : ∀ W : World, (Instr.index 9 (.string s) (.int .i64 (2 * (k : Int)))).run Try.prog W = .ok (.int .u8 (s[2 * k].toNat : Int)) W := fun W => idx_atu s (2 * k) hlt (by omega) W
        have hi2 : ∀ W : World, (Instr.index 9 (.string s) (.int .i64 (2 * (k : Int) + 1))).run Try.prog W = .ok (.int .u8 (s[2 * k + 1].toNat : Int)) W := fun W => idx_atu s (2 * k + 1) hlt2 (by omega) W
        rw [e1] at hun
        have HUN := Lib.hid hun
        have Hacc := Lib.hid hacc
        have hwr : IntKind.i64.wrap (2 * (k : Int) + 1) = 2 * (k : Int) + 1 := by rw [IntKind.wrap_i64]; omega
        clear hun e1 hd hacc
        go_wp2_with fail
        refine wp_region_ext (by kernel_rfl) (by kernel_rfl) ?_
        repeat (first | go_big_quiet_step ((go_at_call 41; exact Ext.calls_same _ (digit_any _ _))) | quiet_step ((go_at_call 41; exact Ext.calls_same _ (digit_any _ _))))
        refine wpQuiet_nil ?_
        intro w2 hb2
        have hbel2 := hbel.trans (hb2.mono hbel.size)
        have hown2 := hown.below hb2 (Nat.le_refl _)
        clear hbel hb2 hown hwr
        generalize P.nib s[2 * k] = x at *
        generalize P.nib s[2 * k + 1] = y at *
        by_cases hbad : x < 0 ∨ y < 0
        · have hun := HUN.out
          rw [if_pos hbad] at hun
          have HS := Lib.hid (show P.unhexS s.data.toList = [] from by simp [P.unhexS, hun])
          have HE := Lib.hid (show P.unhexE s.data.toList = 10 from by simp [P.unhexE, hun])
          clear hun
          rcases (by omega : x < 0 ∨ (0 ≤ x ∧ y < 0)) with h | ⟨h, h'⟩
          · clear hbad
            go_wp2
            go_ret2
            rw [HS.out, HE.out]
            exact ⟨rfl, hbel2⟩
          · clear hbad
            go_wp2
            go_ret2
            rw [HS.out, HE.out]
            exact ⟨rfl, hbel2⟩
        · have hun := HUN.out
          rw [if_neg hbad] at hun
          obtain ⟨na, rfl⟩ := Int.eq_ofNat_of_zero_le (by omega : 0 ≤ x)
          obtain ⟨nb, rfl⟩ := Int.eq_ofNat_of_zero_le (by omega : 0 ≤ y)
          have hcm := refUnhex_any_cm na nb (by omega) (by omega)
          have hnw : ∀ W : World, ∀ j u, [UInt8.ofNat (16 * na + nb)][j]? = some u → (W.alloc (.cells #[.int .u8 (16 * (na : Int) + (nb : Int))] 5)).cell? ((⟨W.heap.size, 0, none⟩ : Addr).add j) = some (valU8 u) := fun W => by
            have h := newsU8 W 5 [UInt8.ofNat (16 * na + nb)]
            unfold cellsU8 at h
            simp only [List.map_cons, List.map_nil, hcm] at h
            exact h
          have Hnw := Lib.hid hnw
          clear hcm hnw
          have HUN2 := Lib.hid hun
          clear hbad hun
          have hle : acc.length + 1 ≤ s.size / 2 := by have := Hacc.out; omega
          go_wp2_with (at_builtin; refine wpList_append_bytes_fits rfl (.tmp 37) (.tmp 43) rfl w.heap.size w.heap.size (s.size / 2) acc rfl (hown2.alloc _) ⟨w2.heap.size, 0, none⟩ 1 1 [UInt8.ofNat (16 * na + nb)] rfl rfl (Hnw.out w2) (by simpa using hle) (by have := hbel2.size; simp; omega) ?_; intro w3 hown3 hbel3)
          have Hb3 := Lib.hid (show Below w.heap.size w w3 from (hbel2.alloc hbel2.size _).trans hbel3)
          clear hbel3
          go_wp2
          go_roundw
          case rel => exact ⟨k + 1, acc ++ [UInt8.ofNat (16 * na + nb)], by omega, by go_num, by have := Hacc.out; simp; omega, by simp, by
            have h := HUN2.out
            simp only [Int.toNat_natCast] at h
            rw [h, show 2 * (k + 1) = 2 * k + 2 from by omega, Option.map_map]
            congr 1
            funext z
            simp, by simpa using hown3, Hb3.out⟩
          case measure => simp [intOf]; omega
      · have hks : 2 * k = s.size := by omega
        have hun2 := hun
        rw [hks, List.drop_eq_nil_of_le (by simp)] at hun2
        have HS := Lib.hid (show P.unhexS s.data.toList = acc from by simp [P.unhexS, hun2, P.unhex])
        have HE := Lib.hid (show P.unhexE s.data.toList = 0 from by simp [P.unhexE, hun2, P.unhex])
        have hst := hown.string
        clear hun hun2 hown hacc hks
        go_wp2
        go_ret2
        rw [HS.out, HE.out]
        exact ⟨rfl, hbel⟩
end Go.Proofs.Ytefebcibcmjbaab
