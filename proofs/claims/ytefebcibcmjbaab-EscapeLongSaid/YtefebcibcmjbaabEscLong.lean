/- EscapeLong: the walk: each sign takes three bytes, each byte that is not printed five, each other one one. -/
import Derived.Test.YtefebcibcmjbaabEscTells
namespace Go.Proofs.Ytefebcibcmjbaab
set_option linter.unusedVariables false
open Go.RowKit Go.BigFrame
namespace P
theorem escB_three {f c r e s b : UInt8} (h : isSign [f, c, r, e, s] b = true) : (escB f c r e s b).length = 3 := by
  have hl : letter f c r e s b ≠ 0 := by
    intro hl
    obtain ⟨h1, h2, h3, h4, h5⟩ := letter_zero.1 hl
    simp [isSign, Ne.symm h1, Ne.symm h2, Ne.symm h3, Ne.symm h4, Ne.symm h5] at h
  unfold escB
  rw [if_pos hl]
  rfl
theorem letter_no {f c r e s b : UInt8} (h : isSign [f, c, r, e, s] b = false) : letter f c r e s b = 0 := by
  simp [isSign] at h
  exact letter_zero.2 ⟨Ne.symm h.1, Ne.symm h.2.1, Ne.symm h.2.2.2.2, Ne.symm h.2.2.1, Ne.symm h.2.2.2.1⟩
theorem escB_five {f c r e s b : UInt8} (h : isSign [f, c, r, e, s] b = false) (hb : b.toNat < 32 ∨ 126 < b.toNat) : (escB f c r e s b).length = 5 := by
  unfold escB
  rw [if_neg (fun k => k (letter_no h)), if_pos hb]
  rfl
theorem escB_one {f c r e s b : UInt8} (h : isSign [f, c, r, e, s] b = false) (hb : ¬ (b.toNat < 32 ∨ 126 < b.toNat)) : escB f c r e s b = [b] := by
  unfold escB
  rw [if_neg (fun k => k (letter_no h)), if_neg hb]
end P
set_option maxRecDepth 100000 in
set_option maxHeartbeats 2000000 in
theorem escapeLong_any (f c r e s : UInt8) (t : ByteArray) (w : World) (ht : t.size ≤ 140737488351232) :
    Calls Try.prog 9 #[.agg #[.int .u8 (f.toNat : Int), .int .u8 (c.toNat : Int), .int .u8 (r.toNat : Int), .int .u8 (e.toNat : Int), .int .u8 (s.toNat : Int)], .string t] w fun x w' => x = .returned (.bool true) ∧ Below w.heap.size w w' := by
  by_cases hz : 9000 < t.size
  · have d1 : decide ((9000 : Int) < (t.size : Int)) = true := decide_eq_true (by omega)
    go_enter Try.func9, Try.ntmps9
    go_wp2_with fail
    refine (alive7 _).mono ?_
    rintro x w1 ⟨rfl, hb1⟩
    have B1 := Lib.hid (box_below hb1)
    clear hb1
    go_wp2
    go_ret
    exact ⟨rfl, B1.out⟩
  have d1 : decide ((9000 : Int) < (t.size : Int)) = false := decide_eq_false (by omega)
  have vc := fun W => valid_any f c r e s W
  cases hv : P.valid [f, c, r, e, s]
  · rw [hv] at vc
    have VC := Lib.hid vc
    clear vc hv
    go_enter Try.func9, Try.ntmps9
    go_wp2_with fail
    refine (VC.out _).mono ?_
    rintro x w1 ⟨rfl, hb1⟩
    have B1 := Lib.hid (box_below hb1)
    clear hb1
    go_wp2_with fail
    refine (alive7 _).mono ?_
    rintro x w2 ⟨rfl, hb2⟩
    have B2 := Lib.hid (bt'' B1.out hb2)
    clear hb2
    go_wp2
    go_ret
    exact ⟨rfl, B2.out⟩
  · have wc := fun W => write_any f c r e s t W (by omega)
    rw [show P.escS f c r e s t.data.toList = P.esc f c r e s t.data.toList from by simp [P.escS, hv]] at wc
    rw [hv] at vc
    have VC := Lib.hid vc
    have WC := Lib.hid wc
    clear vc wc hv
    go_enter Try.func9, Try.ntmps9
    go_wp2_with fail
    refine (VC.out _).mono ?_
    rintro x w1 ⟨rfl, hb1⟩
    have K1 := Lib.hid ((Blk.new w 23 #[.int .u8 (f.toNat : Int), .int .u8 (c.toNat : Int), .int .u8 (r.toNat : Int), .int .u8 (e.toNat : Int), .int .u8 (s.toNat : Int)]).below hb1 (by simp))
    have B1 := Lib.hid (box_below hb1)
    clear hb1
    go_wp2_with fail
    go_loopw [5, 6] (fun n x wr => ∃ k : Nat, k ≤ t.size ∧ x = .int .i64 k ∧ n = .int .i64 ((P.esc f c r e s (t.data.toList.take k)).length : Nat) ∧ Blk wr w.heap.size 23 #[.int .u8 (f.toNat : Int), .int .u8 (c.toNat : Int), .int .u8 (r.toNat : Int), .int .u8 (e.toNat : Int), .int .u8 (s.toNat : Int)] ∧ Below w.heap.size w wr) (fun _ x _ => t.size - (intOf x).toNat)
    case atStart => exact ⟨0, by omega, rfl, rfl, K1.out, B1.out⟩
    case round =>
      obtain ⟨k, hk, rfl, rfl, hblk, hbel⟩ := hrel
      have hle := esc_le f c r e s (t.data.toList.take k)
      rw [List.length_take, Nat.min_eq_left (by simpa using hk)] at hle
      have hcl := fun x => fun i => ext_blk6 hblk x i
      have B3 := Lib.hid hbel
      clear hbel
      by_cases hlt : k < t.size
      · have hi := fun W => idx_atu t k hlt rfl W
        have HS := Lib.hid (show (P.esc f c r e s (t.data.toList.take (k + 1))).length = (P.esc f c r e s (t.data.toList.take k)).length + (P.escB f c r e s t[k]).length from by rw [take_snoc t k hlt, P.esc_append]; simp [P.esc])
        have ic := fun W => is_any f c r e s t[k] W
        generalize (P.esc f c r e s (t.data.toList.take k)).length = n at *
        have key : ∃ m, (P.escB f c r e s t[k]).length = m ∧ ((P.isSign [f, c, r, e, s] t[k] = true ∧ m = 3) ∨ (P.isSign [f, c, r, e, s] t[k] = false ∧ decide ((t[k].toNat : Int) < 32) = true ∧ m = 5) ∨ (P.isSign [f, c, r, e, s] t[k] = false ∧ decide ((t[k].toNat : Int) < 32) = false ∧ decide (126 < (t[k].toNat : Int)) = true ∧ m = 5) ∨ (P.isSign [f, c, r, e, s] t[k] = false ∧ decide ((t[k].toNat : Int) < 32) = false ∧ decide (126 < (t[k].toNat : Int)) = false ∧ m = 1)) := by
          refine ⟨_, rfl, ?_⟩
          cases hs : P.isSign [f, c, r, e, s] t[k]
          · rcases Nat.lt_or_ge t[k].toNat 32 with h | h
            · exact Or.inr (Or.inl ⟨rfl, decide_eq_true (by omega), P.escB_five hs (Or.inl h)⟩)
            · rcases Nat.lt_or_ge 126 t[k].toNat with h' | h'
              · exact Or.inr (Or.inr (Or.inl ⟨rfl, decide_eq_false (by omega), decide_eq_true (by omega), P.escB_five hs (Or.inr h')⟩))
              · exact Or.inr (Or.inr (Or.inr ⟨rfl, decide_eq_false (by omega), decide_eq_false (by omega), by rw [P.escB_one hs (by omega)]; rfl⟩))
          · exact Or.inl ⟨rfl, P.escB_three hs⟩
        obtain ⟨m, hm, key⟩ := key
        rw [hm] at HS
        clear hm
        rcases key with ⟨h1, rfl⟩ | ⟨h1, h2, rfl⟩ | ⟨h1, h2, h3, rfl⟩ | ⟨h1, h2, h3, rfl⟩
        all_goals
          rw [h1] at ic
          have IC := Lib.hid ic
          clear ic h1
          go_wp2_with fail
          refine wp_region_ext (by kernel_rfl) (by kernel_rfl) ?_
          repeat (first | go_big_quiet_step ((go_at_call 17; exact Ext.calls _ (IC.out _))) | quiet_step ((go_at_call 17; exact Ext.calls _ (IC.out _))))
          refine wpQuiet_nil ?_
          intro w4 hb4
          have hblk4 := hblk.below hb4 hblk.lt
          have B4 := Lib.hid (bt'' B3.out hb4)
          clear hb4 hcl hblk
          go_wp2
          go_roundw
          case rel => exact ⟨k + 1, by omega, by go_num, by rw [HS.out]; go_num, hblk4, B4.out⟩
          case measure => simp [intOf]; omega
      · have hkn : k = t.size := by omega
        have HT := Lib.hid (show t.data.toList.take k = t.data.toList from by rw [hkn, List.take_of_length_le (by simp)])
        rw [HT.out] at hle
        rw [HT.out]
        clear hkn HT
        have hc := fun i => hblk.cell i
        generalize P.esc f c r e s t.data.toList = es at *
        go_wp2_with fail
        refine (alive7 _).mono ?_
        rintro x w4 ⟨rfl, hb4⟩
        have hblk4 := hblk.below hb4 hblk.lt
        have B4 := Lib.hid (bt'' B3.out hb4)
        have hc4 := fun i => hblk4.cell i
        clear hb4 hcl hblk hc
        go_wp2_with fail
        refine (WC.out _).mono ?_
        rintro x w5 ⟨rfl, hb5⟩
        have B5 := Lib.hid (bt'' B4.out hb5)
        clear hb5 hc4
        go_wp2
        go_ret
        exact ⟨rfl, B5.out⟩
end Go.Proofs.Ytefebcibcmjbaab
