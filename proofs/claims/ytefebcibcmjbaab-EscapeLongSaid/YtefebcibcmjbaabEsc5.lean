/- What the reference's means returns, with signs that can be. For texts whose lengths a machine holds. -/
import Derived.Test.YtefebcibcmjbaabEsc4
namespace Go.Proofs.Ytefebcibcmjbaab
set_option linter.unusedVariables false
open Go.RowKit Go.BigFrame
theorem str_of {t : ByteArray} {l : List UInt8} (h : t.data.toList = l) : t = ⟨l.toArray⟩ := by
  obtain ⟨⟨d⟩⟩ := t
  simp at h
  rw [h]
theorem means_short {f c r e s : UInt8} {l : List UInt8} (hz : P.sign f c r e s l = 0) (h : l.length < 3 ∨ l.getD 0 0 ≠ 88) : P.means f c r e s l = none ∧ P.meansS f c r e s l = [] := by
  refine ⟨?_, by unfold P.meansS; rw [if_neg (fun k => k hz), if_pos h]⟩
  by_cases hx : ∃ d, l = 88 :: d
  · obtain ⟨d, rfl⟩ := hx
    rw [(P.means_x hz).1]
    rcases h with h | h
    · match d, h with
      | [], _ => rfl
      | [a], _ => rfl
    · exact absurd rfl h
  · exact (P.means_no hz (fun d hd => hx ⟨d, hd⟩)).1
theorem means_long {f c r e s : UInt8} {l : List UInt8} (hz : P.sign f c r e s l = 0) (h : 3 ≤ l.length) (hx : l.getD 0 0 = 88) : P.means f c r e s l = P.unhex (l.drop 1) ∧ P.meansS f c r e s l = P.unhexS (l.drop 1) := by
  refine ⟨?_, by unfold P.meansS; rw [if_neg (fun k => k hz), if_neg (fun k => k.elim (fun k => by omega) (fun k => k hx))]⟩
  match l, h, hx with
  | b :: d, h, hx =>
    have hb : b = 88 := hx
    subst hb
    rw [(P.means_x hz).1]
    match d, h with
    | a :: d, _ => rfl
set_option maxRecDepth 100000 in
set_option maxHeartbeats 4000000 in
theorem means_any (f c r e s : UInt8) (hS : P.Sound f c r e s) (t : ByteArray) (w : World) (hs : t.size ≤ 281474976710656) : Calls Try.prog 32 #[.agg #[.int .u8 (f.toNat : Int), .int .u8 (c.toNat : Int), .int .u8 (r.toNat : Int), .int .u8 (e.toNat : Int), .int .u8 (s.toNat : Int)], .string t] w fun x w' => x = .returned (.tuple #[.string ⟨(P.meansS f c r e s t.data.toList).toArray⟩, .bool (P.means f c r e s t.data.toList).isSome]) ∧ Below w.heap.size w w' := by
  obtain ⟨n1, n2, n3, n4, n5⟩ := P.sign_ne hS
  have HB := Lib.hid (show Below w.heap.size w ((w.alloc (.cells #[.int .u8 (f.toNat : Int), .int .u8 (c.toNat : Int), .int .u8 (r.toNat : Int), .int .u8 (e.toNat : Int), .int .u8 (s.toNat : Int)] 23)).alloc (.cells #[.int .u8 (f.toNat : Int), .int .u8 (c.toNat : Int), .int .u8 (s.toNat : Int), .int .u8 (r.toNat : Int), .int .u8 (e.toNat : Int)] 37)) from ((Below.refl _ _).alloc (Nat.le_refl _) _).alloc (by simp) _)
  have hst : ∀ g : UInt8, (convert 32 9 (.slice (some ⟨w.heap.size + 2, 0, none⟩) 1 1)).run Try.prog ((((w.alloc (.cells #[.int .u8 (f.toNat : Int), .int .u8 (c.toNat : Int), .int .u8 (r.toNat : Int), .int .u8 (e.toNat : Int), .int .u8 (s.toNat : Int)] 23)).alloc (.cells #[.int .u8 (f.toNat : Int), .int .u8 (c.toNat : Int), .int .u8 (s.toNat : Int), .int .u8 (r.toNat : Int), .int .u8 (e.toNat : Int)] 37))).alloc (.cells #[.int .u8 (g.toNat : Int)] 5)) = .ok (.string ⟨#[g]⟩) ((((w.alloc (.cells #[.int .u8 (f.toNat : Int), .int .u8 (c.toNat : Int), .int .u8 (r.toNat : Int), .int .u8 (e.toNat : Int), .int .u8 (s.toNat : Int)] 23)).alloc (.cells #[.int .u8 (f.toNat : Int), .int .u8 (c.toNat : Int), .int .u8 (s.toNat : Int), .int .u8 (r.toNat : Int), .int .u8 (e.toNat : Int)] 37))).alloc (.cells #[.int .u8 (g.toNat : Int)] 5)) := fun g => by
    have h := Blk.new ((w.alloc (.cells #[.int .u8 (f.toNat : Int), .int .u8 (c.toNat : Int), .int .u8 (r.toNat : Int), .int .u8 (e.toNat : Int), .int .u8 (s.toNat : Int)] 23)).alloc (.cells #[.int .u8 (f.toNat : Int), .int .u8 (c.toNat : Int), .int .u8 (s.toNat : Int), .int .u8 (r.toNat : Int), .int .u8 (e.toNat : Int)] 37)) 5 (cellsU8 [g])
    rw [show (((w.alloc (.cells #[.int .u8 (f.toNat : Int), .int .u8 (c.toNat : Int), .int .u8 (r.toNat : Int), .int .u8 (e.toNat : Int), .int .u8 (s.toNat : Int)] 23)).alloc (.cells #[.int .u8 (f.toNat : Int), .int .u8 (c.toNat : Int), .int .u8 (s.toNat : Int), .int .u8 (r.toNat : Int), .int .u8 (e.toNat : Int)] 37))).heap.size = w.heap.size + 2 from by simp] at h
    exact bytes_string (c := 1) (n := 1) h (by simp)
  have Hst := Lib.hid hst
  have N := Lib.hid (show f ≠ 0 ∧ c ≠ 0 ∧ r ≠ 0 ∧ e ≠ 0 ∧ s ≠ 0 from ⟨n1, n2, n3, n4, n5⟩)
  clear hst n1 n2 n3 n4 n5
  go_enter Try.func32, Try.ntmps32
  go_wp2_with fail
  have hsl0 : ∀ W : World, (Instr.sliceAt 9 (.string ⟨#[70, 83, 84, 82, 69]⟩) (some (.int .i64 0)) (some (.int .i64 1)) none).run Try.prog W = .ok (.string ⟨#[70]⟩) W := fun W => by kernel_rfl
  have hsl1 : ∀ W : World, (Instr.sliceAt 9 (.string ⟨#[70, 83, 84, 82, 69]⟩) (some (.int .i64 1)) (some (.int .i64 2)) none).run Try.prog W = .ok (.string ⟨#[83]⟩) W := fun W => by kernel_rfl
  have hsl2 : ∀ W : World, (Instr.sliceAt 9 (.string ⟨#[70, 83, 84, 82, 69]⟩) (some (.int .i64 2)) (some (.int .i64 3)) none).run Try.prog W = .ok (.string ⟨#[84]⟩) W := fun W => by kernel_rfl
  have hsl3 : ∀ W : World, (Instr.sliceAt 9 (.string ⟨#[70, 83, 84, 82, 69]⟩) (some (.int .i64 3)) (some (.int .i64 4)) none).run Try.prog W = .ok (.string ⟨#[82]⟩) W := fun W => by kernel_rfl
  have hsl4 : ∀ W : World, (Instr.sliceAt 9 (.string ⟨#[70, 83, 84, 82, 69]⟩) (some (.int .i64 4)) (some (.int .i64 5)) none).run Try.prog W = .ok (.string ⟨#[69]⟩) W := fun W => by kernel_rfl
  go_loop [7] (fun i => ∃ k : Nat, k ≤ 5 ∧ i = .int .i64 k ∧ ∀ j, j < k → t.data.toList ≠ [[70, 83, 84, 82, 69].getD j 0]) (fun i => 5 - (intOf i).toNat)
  case atStart => exact ⟨0, by omega, rfl, fun j hj => by omega⟩
  case round =>
    obtain ⟨k, hk, rfl, hno⟩ := hrel
    by_cases hlt : k < 5
    · rcases (by omega : k = 0 ∨ k = 1 ∨ k = 2 ∨ k = 3 ∨ k = 4) with rfl | rfl | rfl | rfl | rfl
      · have Hno := Lib.hid hno
        clear hno
        by_cases h : t.data.toList = [70]
        · have ht := Lib.hid (show t = ⟨#[70]⟩ from str_of h)
          have HV := Lib.hid (show P.meansS f c r e s t.data.toList = [f] ∧ P.means f c r e s t.data.toList = some [f] from by
            obtain ⟨n1, n2, n3, n4, n5⟩ := N.out
            rw [h]; simp [P.meansS, P.means, P.sign, n1])
          have hst := Hst.out f
          clear h Hno
          obtain rfl := ht.out
          go_wp2
          go_ret2
          rw [HV.out.1, HV.out.2]
          exact ⟨rfl, HB.out.alloc HB.out.size _⟩
        · have t1 : (t.toList == [70]) = false := by rw [ByteArray.toList_eq]; simpa using h
          have HN := Lib.hid (show ∀ j, j < 1 → t.data.toList ≠ [[70, 83, 84, 82, 69].getD j 0] from fun j hj => by
            rcases Nat.lt_or_ge j 0 with h1 | h1
            · exact Hno.out j h1
            · have : j = 0 := by omega
              subst this; exact h)
          clear h
          go_wp2
          go_round
          case rel => exact ⟨1, by omega, by go_num, HN.out⟩
          case measure => simp [intOf]
      · have Hno := Lib.hid hno
        clear hno
        by_cases h : t.data.toList = [83]
        · have ht := Lib.hid (show t = ⟨#[83]⟩ from str_of h)
          have HV := Lib.hid (show P.meansS f c r e s t.data.toList = [c] ∧ P.means f c r e s t.data.toList = some [c] from by
            obtain ⟨n1, n2, n3, n4, n5⟩ := N.out
            rw [h]; simp [P.meansS, P.means, P.sign, n2])
          have hst := Hst.out c
          clear h Hno
          obtain rfl := ht.out
          go_wp2
          go_ret2
          rw [HV.out.1, HV.out.2]
          exact ⟨rfl, HB.out.alloc HB.out.size _⟩
        · have t1 : (t.toList == [83]) = false := by rw [ByteArray.toList_eq]; simpa using h
          have HN := Lib.hid (show ∀ j, j < 2 → t.data.toList ≠ [[70, 83, 84, 82, 69].getD j 0] from fun j hj => by
            rcases Nat.lt_or_ge j 1 with h1 | h1
            · exact Hno.out j h1
            · have : j = 1 := by omega
              subst this; exact h)
          clear h
          go_wp2
          go_round
          case rel => exact ⟨2, by omega, by go_num, HN.out⟩
          case measure => simp [intOf]
      · have Hno := Lib.hid hno
        clear hno
        by_cases h : t.data.toList = [84]
        · have ht := Lib.hid (show t = ⟨#[84]⟩ from str_of h)
          have HV := Lib.hid (show P.meansS f c r e s t.data.toList = [s] ∧ P.means f c r e s t.data.toList = some [s] from by
            obtain ⟨n1, n2, n3, n4, n5⟩ := N.out
            rw [h]; simp [P.meansS, P.means, P.sign, n5])
          have hst := Hst.out s
          clear h Hno
          obtain rfl := ht.out
          go_wp2
          go_ret2
          rw [HV.out.1, HV.out.2]
          exact ⟨rfl, HB.out.alloc HB.out.size _⟩
        · have t1 : (t.toList == [84]) = false := by rw [ByteArray.toList_eq]; simpa using h
          have HN := Lib.hid (show ∀ j, j < 3 → t.data.toList ≠ [[70, 83, 84, 82, 69].getD j 0] from fun j hj => by
            rcases Nat.lt_or_ge j 2 with h1 | h1
            · exact Hno.out j h1
            · have : j = 2 := by omega
              subst this; exact h)
          clear h
          go_wp2
          go_round
          case rel => exact ⟨3, by omega, by go_num, HN.out⟩
          case measure => simp [intOf]
      · have Hno := Lib.hid hno
        clear hno
        by_cases h : t.data.toList = [82]
        · have ht := Lib.hid (show t = ⟨#[82]⟩ from str_of h)
          have HV := Lib.hid (show P.meansS f c r e s t.data.toList = [r] ∧ P.means f c r e s t.data.toList = some [r] from by
            obtain ⟨n1, n2, n3, n4, n5⟩ := N.out
            rw [h]; simp [P.meansS, P.means, P.sign, n3])
          have hst := Hst.out r
          clear h Hno
          obtain rfl := ht.out
          go_wp2
          go_ret2
          rw [HV.out.1, HV.out.2]
          exact ⟨rfl, HB.out.alloc HB.out.size _⟩
        · have t1 : (t.toList == [82]) = false := by rw [ByteArray.toList_eq]; simpa using h
          have HN := Lib.hid (show ∀ j, j < 4 → t.data.toList ≠ [[70, 83, 84, 82, 69].getD j 0] from fun j hj => by
            rcases Nat.lt_or_ge j 3 with h1 | h1
            · exact Hno.out j h1
            · have : j = 3 := by omega
              subst this; exact h)
          clear h
          go_wp2
          go_round
          case rel => exact ⟨4, by omega, by go_num, HN.out⟩
          case measure => simp [intOf]
      · have Hno := Lib.hid hno
        clear hno
        by_cases h : t.data.toList = [69]
        · have ht := Lib.hid (show t = ⟨#[69]⟩ from str_of h)
          have HV := Lib.hid (show P.meansS f c r e s t.data.toList = [e] ∧ P.means f c r e s t.data.toList = some [e] from by
            obtain ⟨n1, n2, n3, n4, n5⟩ := N.out
            rw [h]; simp [P.meansS, P.means, P.sign, n4])
          have hst := Hst.out e
          clear h Hno
          obtain rfl := ht.out
          go_wp2
          go_ret2
          rw [HV.out.1, HV.out.2]
          exact ⟨rfl, HB.out.alloc HB.out.size _⟩
        · have t1 : (t.toList == [69]) = false := by rw [ByteArray.toList_eq]; simpa using h
          have HN := Lib.hid (show ∀ j, j < 5 → t.data.toList ≠ [[70, 83, 84, 82, 69].getD j 0] from fun j hj => by
            rcases Nat.lt_or_ge j 4 with h1 | h1
            · exact Hno.out j h1
            · have : j = 4 := by omega
              subst this; exact h)
          clear h
          go_wp2
          go_round
          case rel => exact ⟨5, by omega, by go_num, HN.out⟩
          case measure => simp [intOf]
    · have hk5 : k = 5 := by omega
      have h0 : t.data.toList ≠ [70] := hno 0 (by omega)
      have h1 : t.data.toList ≠ [83] := hno 1 (by omega)
      have h2 : t.data.toList ≠ [84] := hno 2 (by omega)
      have h3 : t.data.toList ≠ [82] := hno 3 (by omega)
      have h4 : t.data.toList ≠ [69] := hno 4 (by omega)
      have hz : P.sign f c r e s t.data.toList = 0 := by unfold P.sign; rw [if_neg h0, if_neg h1, if_neg h2, if_neg h3, if_neg h4]
      have HZ := Lib.hid hz
      clear hno h0 h1 h2 h3 h4 hz
      subst hk5
      by_cases hsz : t.size < 3
      · have HV := Lib.hid (means_short HZ.out (Or.inl (by simpa using hsz)))
        have d1 : decide ((t.size : Int) < 3) = true := decide_eq_true (by omega)
        go_wp2
        go_ret2
        rw [HV.out.1, HV.out.2]
        exact ⟨rfl, HB.out⟩
      · have d1 : decide ((t.size : Int) < 3) = false := decide_eq_false (by omega)
        have hg : t.data.toList.getD 0 0 = t[0]'(by omega) := by
          rw [List.getD_eq_getElem?_getD, List.getElem?_eq_getElem (by simp; omega)]
          rfl
        have hi : ∀ W : World, (Instr.index 9 (.string t) (.int .i64 0)).run Try.prog W = .ok (.int .u8 ((t[0]'(by omega)).toNat : Int)) W := fun W => idx_atu t 0 (by omega) rfl W
        by_cases hx : t[0]'(by omega) = 88
        · have d2 : (((t[0]'(by omega)).toNat : Int) != 88) = false := by rw [hx]; rfl
          have HV := Lib.hid (means_long HZ.out (by simp; omega) (hg.trans hx))
          have uc := fun W => refUnhex_any (t.extract 1 t.size) W (by simp; omega)
          rw [show (t.extract 1 t.size).data.toList = t.data.toList.drop 1 from by simp [ByteArray.data_extract]; rw [List.take_of_length_le (by simp)]] at uc
          have UC := Lib.hid uc
          have HE := Lib.hid (show (P.unhexE (t.data.toList.drop 1) == 0) = (P.unhex (t.data.toList.drop 1)).isSome from by unfold P.unhexE; cases P.unhex (t.data.toList.drop 1) <;> rfl)
          clear uc hg hx
          generalize P.unhexS (t.data.toList.drop 1) = S at *
          generalize P.unhexE (t.data.toList.drop 1) = E at *
          go_wp2_with fail
          refine (UC.out _).mono ?_
          rintro x w3 ⟨rfl, hb3⟩
          have B3 := Lib.hid (bt'' HB.out hb3)
          clear hb3
          go_wp2
          go_ret2
          rw [HV.out.1, HV.out.2, ← HE.out]
          exact ⟨rfl, B3.out⟩
        · have d2 : (((t[0]'(by omega)).toNat : Int) != 88) = true := by rw [bne_iff_ne]; intro h; exact hx (UInt8.toNat_inj.1 (show _ = 88 from by omega))
          have HV := Lib.hid (means_short HZ.out (Or.inr (by rw [hg]; exact hx)))
          clear hg hx
          go_wp2
          go_ret2
          rw [HV.out.1, HV.out.2]
          exact ⟨rfl, HB.out⟩
end Go.Proofs.Ytefebcibcmjbaab
