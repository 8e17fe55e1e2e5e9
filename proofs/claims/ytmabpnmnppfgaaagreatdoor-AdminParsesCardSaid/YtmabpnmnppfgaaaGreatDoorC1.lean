/- Part C1 of the proof: the statement that is proved stands in the text that ends with its name. No conditions beyond the card's. -/
import Derived.Test.YtmabpnmnppfgaaaGreatDoorA3
namespace Go.Proofs.YtmabpnmnppfgaaaGreatDoor
set_option linter.unusedVariables false
open Go Go.RowKit Go.BigFrame
theorem bstring_any (b B : Nat) (l : List UInt8) (w : World) (h : BAt w b B l) (hbB : b < B) :
    Calls Tryz.prog 135 #[.pointer (some ⟨b, 0, none⟩)] w fun e w' => e = .returned (.string ⟨l.toArray⟩) ∧ Below b w w' := by
  obtain ⟨p, A, c, h1, h2, h3⟩ := h
  have hlt := h1.lt
  refine Tryz.Builder_String_any b b l w ?_ (Nat.le_of_lt hlt)
  have hx : ∀ q, p = q → Lib.BuilderAt 165 5 b b q (Lib.byteCells l) w := fun q e => by
    subst e
    refine ⟨Nat.le_refl _, _, h1, ?_, fun e => ?_⟩
    · have := h3.less (Nat.le_of_lt hbB)
      unfold OwnB at this
      rw [Lib.byteCells_length]
      exact this
    · have := (World.ownsRow.lt h3 b e).1
      omega
  rcases h2 with h | h
  · exact .inl (hx _ h)
  · exact .inr (hx _ h)
theorem ext_one (s : ByteArray) (k : Nat) (h : k < s.size) : (s.extract k (k + 1)).data.toList = [s[k]] := by
  rw [ext_mid s k 1, List.drop_eq_getElem_cons (by simpa using h)]
  rfl
set_option maxRecDepth 100000 in
set_option maxHeartbeats 1600000 in
theorem quote_any (s : ByteArray) (w : World) (hs : s.size ≤ 100000) :
    Calls Tryz.prog 25 #[.string s] w fun e w' => e = .returned (.string ⟨(Ad.quote s.data.toList).toArray⟩) ∧ Below w.heap.size w w' := by
  obtain ⟨L, hL⟩ : ∃ L, L = s.data.toList := ⟨_, rfl⟩
  have HLen := Lib.hid (show L.length = s.size by rw [hL]; simp)
  have HL := Lib.hid hL
  rw [← hL]
  clear hL
  have K1 := Lib.hid (wbyte_any w.heap.size (w.heap.size + 1) [] 34 (w.alloc (.cells #[.pointer none, .slice none 0 0] 165)) ⟨_, none, 0, Blk.new w _ _, .inl rfl, OwnB.nil _ _⟩ (by omega) (by simp) (by simp))
  go_enter Tryz.func25, Tryz.ntmps25
  go_wp2_with fail
  refine K1.out.mono ?_
  rintro e w1 ⟨rfl, hbat, hb1⟩
  have HB1 := Lib.hid ((((Below.refl _ w).alloc (Nat.le_refl _) (.cells #[.pointer none, .slice none 0 0] 165))).trans hb1)
  clear hb1 K1
  go_wp2_with fail
  go_loopw [9] (fun x wr => ∃ k : Nat, x = .int .i64 k ∧ k ≤ s.size ∧ BAt wr w.heap.size (w.heap.size + 1) (34 :: Ad.quoteL (L.take k)) ∧ Below w.heap.size w wr ∧ w.heap.size + 1 ≤ wr.heap.size) (fun x _ => s.size - (intOf x).toNat)
  case atStart => exact ⟨0, rfl, by omega, by simpa [Ad.quoteL] using hbat, HB1.out, by obtain ⟨_, _, _, h, _⟩ := hbat; exact h.lt⟩
  case round =>
    obtain ⟨k, rfl, hk, hbat, hbel, hsz⟩ := hrel
    by_cases hlt : k < s.size
    · have hll := Ad.quoteL_len (L.take k)
      rw [List.length_take] at hll
      have HQL := Lib.hid (show (34 :: Ad.quoteL (L.take k)).length ≤ 1000000 by simp; omega)
      have HS := Lib.hid (show 34 :: Ad.quoteL (L.take (k + 1)) = (34 :: Ad.quoteL (L.take k)) ++ Ad.quoteB s[k] by rw [HL.out, take_snoc s k hlt, Ad.quoteL_snoc]; rfl)
      have HX := Lib.hid (ext_one s k hlt)
      have hxs : (s.extract k (k + 1)).size = 1 := by rw [ByteArray.size_extract]; omega
      have hi1 : ∀ W : World, (Instr.index 9 (.string s) (.int .i64 (k : Int))).run Tryz.prog W = .ok (.int .u8 (s[k].toNat : Int)) W := fun W => idx_atu s k hlt rfl W
      have hc := s[k].toNat_lt
      clear hll
      generalize s[k] = c at *
      by_cases hq : c.toNat = 34 ∨ c.toNat = 92
      · have HB := Lib.hid (show Ad.quoteB c = [92, c] by unfold Ad.quoteB; rw [if_pos hq])
        have K2 := Lib.hid (wstr_any w.heap.size (w.heap.size + 1) _ (⟨#[92]⟩ ++ s.extract k (k + 1)) wr hbat (by omega) hsz HQL.out (by rw [ByteArray.size_append, hxs]; exact (by decide : (⟨#[92]⟩ : ByteArray).size + 1 ≤ 1000000)))
        obtain ⟨x1, hx1⟩ : ∃ x, ((c.toNat : Int) == 34) = x := ⟨_, rfl⟩
        obtain ⟨x2, hx2⟩ : ∃ x, ((c.toNat : Int) == 92) = x := ⟨_, rfl⟩
        have hxx : x1 = true ∨ (x1 = false ∧ x2 = true) := by
          rcases hq with h | h
          · left; rw [← hx1, h]; rfl
          · right; exact ⟨by rw [← hx1, h]; rfl, by rw [← hx2, h]; rfl⟩
        clear hq hbat
        rcases hxx with rfl | ⟨rfl, rfl⟩
        all_goals
          go_wp2_with fail
          refine K2.out.mono ?_
          rintro e w2 ⟨⟨v, rfl⟩, hbat2, hb2⟩
          have e2 : (34 :: Ad.quoteL (L.take k)) ++ (⟨#[92]⟩ ++ s.extract k (k + 1) : ByteArray).data.toList = 34 :: Ad.quoteL (L.take (k + 1)) := by
            rw [HS.out, HB.out, ByteArray.data_append, Array.toList_append, HX.out]
            rfl
          rw [e2] at hbat2
          have HB2 := Lib.hid (hbel.trans hb2)
          have HZ := Lib.hid (show w.heap.size + 1 ≤ w2.heap.size by obtain ⟨_, _, _, h, _⟩ := hbat2; exact h.lt)
          clear e2 hb2 hbel hsz hi1
          go_wp2_with fail
          go_roundw
          case rel => exact ⟨k + 1, by go_num, by omega, hbat2, HB2.out, HZ.out⟩
          case measure => simp [intOf]; omega
      · have y1 : ((c.toNat : Int) == 34) = false := by rw [beq_eq_false_iff_ne]; omega
        have y2 : ((c.toNat : Int) == 92) = false := by rw [beq_eq_false_iff_ne]; omega
        by_cases hp : 32 ≤ c.toNat ∧ c.toNat ≤ 126
        · have HB := Lib.hid (show Ad.quoteB c = [c] by unfold Ad.quoteB; rw [if_neg hq, if_pos hp])
          have K2 := Lib.hid (wbyte_any w.heap.size (w.heap.size + 1) _ c wr hbat (by omega) hsz HQL.out)
          obtain ⟨p1, p2⟩ := hp
          clear hq hbat
          go_wp2_with fail
          refine K2.out.mono ?_
          rintro e w2 ⟨rfl, hbat2, hb2⟩
          rw [← HB.out, ← HS.out] at hbat2
          have HB2 := Lib.hid (hbel.trans hb2)
          have HZ := Lib.hid (show w.heap.size + 1 ≤ w2.heap.size by obtain ⟨_, _, _, h, _⟩ := hbat2; exact h.lt)
          clear hb2 hbel hsz hi1
          go_wp2_with fail
          go_roundw
          case rel => exact ⟨k + 1, by go_num, by omega, hbat2, HB2.out, HZ.out⟩
          case measure => simp [intOf]; omega
        · have HB := Lib.hid (show Ad.quoteB c = [92, 120] ++ P.hexB c by unfold Ad.quoteB; rw [if_neg hq, if_neg hp])
          have KH := hex_any (s.extract k (k + 1)) wr (by omega)
          rw [HX.out] at KH
          obtain ⟨t, ht⟩ : ∃ t : ByteArray, t = ⟨(P.hex [c]).toArray⟩ := ⟨_, rfl⟩
          have hts : t.size = 2 := by rw [ht]; simp [P.hex, P.hexB, ByteArray.size]
          have HTD := Lib.hid (show t.data.toList = P.hexB c by rw [ht]; simp [P.hex])
          rw [← ht] at KH
          clear ht
          have KK := Lib.hid KH
          have BA := Lib.hid hbat
          have hpp : c.toNat < 32 ∨ (¬ c.toNat < 32 ∧ 126 < c.toNat) := by omega
          clear hq hp KH hbat
          rcases hpp with p1 | ⟨p1, p2⟩
          all_goals
            go_wp2_with fail
            refine KK.out.mono ?_
            rintro e w2 ⟨rfl, hb2⟩
            have K2 := Lib.hid (wstr_any w.heap.size (w.heap.size + 1) _ (⟨#[92, 120]⟩ ++ t) w2 (BA.out.below hb2) (by omega) (by have := hb2.size; omega) HQL.out (by rw [ByteArray.size_append, hts]; exact (by decide : (⟨#[92, 120]⟩ : ByteArray).size + 2 ≤ 1000000)))
            have HB2 := Lib.hid (hbel.trans (hb2.mono (by omega)))
            clear hb2 hbel
            go_wp2_with fail
            refine K2.out.mono ?_
            rintro e w3 ⟨⟨v, rfl⟩, hbat2, hb3⟩
            have e2 : (34 :: Ad.quoteL (L.take k)) ++ (⟨#[92, 120]⟩ ++ t : ByteArray).data.toList = 34 :: Ad.quoteL (L.take (k + 1)) := by
              rw [HS.out, HB.out, ByteArray.data_append, Array.toList_append, HTD.out]
            rw [e2] at hbat2
            have HB3 := Lib.hid (HB2.out.trans hb3)
            have HZ := Lib.hid (show w.heap.size + 1 ≤ w3.heap.size by obtain ⟨_, _, _, h, _⟩ := hbat2; exact h.lt)
            clear e2 hb3 hsz hi1
            go_wp2_with fail
            go_roundw
            case rel => exact ⟨k + 1, by go_num, by omega, hbat2, HB3.out, HZ.out⟩
            case measure => simp [intOf]; omega
    · obtain rfl : k = s.size := by omega
      have hll := Ad.quoteL_len (L.take s.size)
      rw [List.length_take] at hll
      have HQL := Lib.hid (show (34 :: Ad.quoteL (L.take s.size)).length ≤ 1000000 by simp; omega)
      have hfull : L.take s.size = L := List.take_of_length_le (Nat.le_of_eq HLen.out)
      have HF := Lib.hid hfull
      clear hll hfull
      have K2 := Lib.hid (wbyte_any w.heap.size (w.heap.size + 1) _ 34 wr hbat (by omega) hsz HQL.out)
      clear hbat
      go_wp2_with fail
      refine K2.out.mono ?_
      rintro e w2 ⟨rfl, hbat2, hb2⟩
      have K3 := Lib.hid (bstring_any w.heap.size (w.heap.size + 1) _ w2 hbat2 (by omega))
      have HB2 := Lib.hid (hbel.trans hb2)
      clear hbat2 hb2 hbel
      go_wp2_with fail
      refine K3.out.mono ?_
      rintro e w3 ⟨rfl, hb3⟩
      go_wp2_with fail
      go_ret
      refine ⟨?_, HB2.out.trans hb3⟩
      rw [HF.out]
      rfl
end Go.Proofs.YtmabpnmnppfgaaaGreatDoor
