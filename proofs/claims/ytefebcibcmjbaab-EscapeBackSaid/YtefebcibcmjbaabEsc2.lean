/- What escape.Write returns: each sign by its letter, each byte that is not printed by its digits. For texts whose lengths a machine holds. -/
import Derived.Test.YtefebcibcmjbaabEsc1
import Derived.Test.YtefebcibcmjbaabFree
import Derived.Test.YtefebcibcmjbaabI64
import Derived.Deep.RegionLaw
namespace Go.Proofs.Ytefebcibcmjbaab
set_option linter.unusedVariables false
open Go.RowKit Go.BigFrame
theorem take_snoc (s : ByteArray) (k : Nat) (h : k < s.size) : s.data.toList.take (k + 1) = s.data.toList.take k ++ [s[k]] := by
  rw [List.take_succ_eq_append_getElem (by simpa using h)]; rfl
theorem small {p : Nat → Prop} (h : p 0 ∧ p 1 ∧ p 2 ∧ p 3 ∧ p 4 ∧ p 5 ∧ p 6 ∧ p 7 ∧ p 8 ∧ p 9 ∧ p 10 ∧ p 11 ∧ p 12 ∧ p 13 ∧ p 14 ∧ p 15) (n : Nat) (hn : n < 16) : p n := by
  obtain ⟨h0, h1, h2, h3, h4, h5, h6, h7, h8, h9, h10, h11, h12, h13, h14, h15⟩ := h
  rcases (by omega : n = 0 ∨ n = 1 ∨ n = 2 ∨ n = 3 ∨ n = 4 ∨ n = 5 ∨ n = 6 ∨ n = 7 ∨ n = 8 ∨ n = 9 ∨ n = 10 ∨ n = 11 ∨ n = 12 ∨ n = 13 ∨ n = 14 ∨ n = 15) with rfl | rfl | rfl | rfl | rfl | rfl | rfl | rfl | rfl | rfl | rfl | rfl | rfl | rfl | rfl | rfl <;> assumption
theorem index_hexU (W : World) (n : Nat) (hn : n < 16) : (Instr.index 9 (.string ⟨#[48, 49, 50, 51, 52, 53, 54, 55, 56, 57, 65, 66, 67, 68, 69, 70]⟩) (.int .u8 (n : Int))).run Try.prog W = .ok (.int .u8 ((P.hexU n).toNat : Int)) W := by
  refine small (p := fun n => (Instr.index 9 (.string ⟨#[48, 49, 50, 51, 52, 53, 54, 55, 56, 57, 65, 66, 67, 68, 69, 70]⟩) (.int .u8 (n : Int))).run Try.prog W = .ok (.int .u8 ((P.hexU n).toNat : Int)) W) ?_ n hn
  exact ⟨by kernel_rfl, by kernel_rfl, by kernel_rfl, by kernel_rfl, by kernel_rfl, by kernel_rfl, by kernel_rfl, by kernel_rfl, by kernel_rfl, by kernel_rfl, by kernel_rfl, by kernel_rfl, by kernel_rfl, by kernel_rfl, by kernel_rfl, by kernel_rfl⟩
theorem and15 (b : Nat) (hb : b < 256) : bits BinOp.and IntKind.u8 (b : Int) 15 = ((b % 16 : Nat) : Int) := by
  rw [show (15 : Int) = ((15 : Nat) : Int) from rfl, u8_and_nat _ _ hb (by omega)]
  congr 1
  exact Nat.and_two_pow_sub_one_eq_mod b 4
theorem escB_le (f c r e s b : UInt8) : (P.escB f c r e s b).length ≤ 5 := by
  unfold P.escB
  split
  · simp
  · split <;> simp
theorem esc_le (f c r e s : UInt8) : ∀ l : List UInt8, (P.esc f c r e s l).length ≤ 5 * l.length
  | [] => by simp [P.esc]
  | b :: l => by
    have h := esc_le f c r e s l
    have h1 := escB_le f c r e s b
    have e1 : P.esc f c r e s (b :: l) = P.escB f c r e s b ++ P.esc f c r e s l := rfl
    rw [e1]; simp; omega
theorem OwnB.stays {x y : World} {B : Nat} {v : Value} {l : List UInt8} (h : OwnB x B v l) (k : Stays x y) : OwnB y B v l := h.below k (Nat.le_refl _)
theorem bt' {w a b : World} (h : Below w.heap.size w a) (k : Stays a b) : Below w.heap.size w b := h.trans (k.mono h.size)
set_option maxRecDepth 100000 in
set_option maxHeartbeats 4000000 in
theorem write_any (f c r e s : UInt8) (v : ByteArray) (w : World) (hs : v.size ≤ 17592186044416) : Calls Try.prog 20 #[.agg #[.int .u8 (f.toNat : Int), .int .u8 (c.toNat : Int), .int .u8 (r.toNat : Int), .int .u8 (e.toNat : Int), .int .u8 (s.toNat : Int)], .string v] w fun x w' => x = .returned (.string ⟨(P.escS f c r e s v.data.toList).toArray⟩) ∧ Below w.heap.size w w' := by
  cases hv : P.valid [f, c, r, e, s]
  · have vc := fun W => valid_any f c r e s W
    rw [hv] at vc
    have HV := Lib.hid (show P.escS f c r e s v.data.toList = [] from by simp [P.escS, hv])
    clear hv
    go_enter Try.func20, Try.ntmps20
    go_wp2_with fail
    refine (vc _).mono ?_
    rintro x w2 ⟨rfl, hb2⟩
    have HB := Lib.hid (box_below hb2)
    clear hb2 vc
    go_wp2
    go_ret
    rw [HV.out]
    exact ⟨rfl, HB.out⟩
  · have vc := fun W => valid_any f c r e s W
    rw [hv] at vc
    have HV := Lib.hid (show P.escS f c r e s v.data.toList = P.esc f c r e s v.data.toList from by simp [P.escS, hv])
    have VC := Lib.hid vc
    clear hv vc
    have hmk : ∀ W : World, (Instr.makeSlice 32 (.int .i64 0) (.int .i64 (v.size : Int))).run Try.prog W = .ok (.slice (some ⟨W.heap.size, 0, none⟩) 0 v.size) (W.alloc (.cells (cellsU8 (List.replicate v.size 0)) 5)) := fun W => make_bytes .i64 .i64 0 v.size (by omega) (by omega) W
    go_enter Try.func20, Try.ntmps20
    go_wp2_with fail
    refine (VC.out _).mono ?_
    rintro x w2 ⟨rfl, hb2⟩
    have B2 := Lib.hid (box_below hb2)
    have K2 := Lib.hid (((Blk.new w 23 #[.int .u8 (f.toNat : Int), .int .u8 (c.toNat : Int), .int .u8 (r.toNat : Int), .int .u8 (e.toNat : Int), .int .u8 (s.toNat : Int)]).below hb2 (by simp)).alloc (.cells (cellsU8 (List.replicate v.size 0)) 5))
    have O2 := Lib.hid (OwnB.made w2 v.size (by unfold maxLen; omega))
    have Z2 := Lib.hid (show w.heap.size < w2.heap.size from by have := hb2.size; simp at this; omega)
    clear hb2
    go_wp2_with fail
    go_loopw [5, 17] (fun o x wr => ∃ k : Nat, k ≤ v.size ∧ x = .int .i64 k ∧ OwnB wr w2.heap.size o (P.esc f c r e s (v.data.toList.take k)) ∧ Blk wr w.heap.size 23 #[.int .u8 (f.toNat : Int), .int .u8 (c.toNat : Int), .int .u8 (r.toNat : Int), .int .u8 (e.toNat : Int), .int .u8 (s.toNat : Int)] ∧ w2.heap.size < wr.heap.size ∧ Below w.heap.size w wr) (fun _ x _ => v.size - (intOf x).toNat)
    case atStart => exact ⟨0, by omega, rfl, O2.out, K2.out, by simp, B2.out.alloc B2.out.size _⟩
    case round =>
      obtain ⟨k, hk, rfl, hown, hblk, hwr, hbel⟩ := hrel
      by_cases hlt : k < v.size
      · have HS := Lib.hid (show P.esc f c r e s (v.data.toList.take (k + 1)) = P.esc f c r e s (v.data.toList.take k) ++ P.escB f c r e s v[k] from by rw [take_snoc v k hlt, P.esc_append]; simp [P.esc])
        have hle := esc_le f c r e s (v.data.toList.take k)
        rw [List.length_take, Nat.min_eq_left (by simpa using hk)] at hle
        have hc := fun i => hblk.cell i
        generalize P.esc f c r e s (v.data.toList.take k) = acc at *
        go_wp2_with fail
        refine (letter_any f c r e s v[k] _).mono ?_
        rintro x w3 ⟨rfl, hb3⟩
        have hown3 := hown.below hb3 (Nat.le_refl _)
        have hblk3 := hblk.below hb3 hblk.lt
        have B3 := Lib.hid (hbel.trans (hb3.mono hbel.size))
        have Z3 : w2.heap.size < w3.heap.size := Nat.lt_of_lt_of_le hwr hb3.size
        have hc3 := fun i => hblk3.cell i
        clear hc hb3 hown hblk hbel hwr
        by_cases hl : P.letter f c r e s v[k] = 0
        · by_cases hp : v[k].toNat < 32 ∨ 126 < v[k].toNat
          · have HS2 := Lib.hid (show P.esc f c r e s (v.data.toList.take (k + 1)) = acc ++ [e, 88, P.hexU (v[k].toNat / 16), P.hexU (v[k].toNat % 16), e] from by rw [HS.out]; unfold P.escB; rw [if_neg (by simpa using hl), if_pos hp])
            have t1 : (((P.letter f c r e s v[k]).toNat : Int) != 0) = false := by rw [hl]; rfl
            have hb : v[k].toNat < 256 := v[k].toNat_lt
            have ha := and15 v[k].toNat hb
            have hi1 : ∀ W : World, _ := fun W => index_hexU W (v[k].toNat / 16) (by omega)
            rw [show ((v[k].toNat / 16 : Nat) : Int) = (v[k].toNat : Int) / 16 from by omega] at hi1
            have hi2 : ∀ W : World, _ := fun W => index_hexU W (v[k].toNat % 16) (by omega)
            rw [show ((v[k].toNat % 16 : Nat) : Int) = (v[k].toNat : Int) % 16 from by omega] at hi2
            rw [show ((v[k].toNat % 16 : Nat) : Int) = (v[k].toNat : Int) % 16 from by omega] at ha
            have Hdis : (decide ((v[k].toNat : Int) < 32) = true) ∨ (decide ((v[k].toNat : Int) < 32) = false ∧ decide (126 < (v[k].toNat : Int)) = true) := by
              rcases Nat.lt_or_ge v[k].toNat 32 with h | h
              · exact Or.inl (decide_eq_true (by omega))
              · exact Or.inr ⟨decide_eq_false (by omega), decide_eq_true (by omega)⟩
            clear hl hp HS
            rcases Hdis with t2 | ⟨t2, t3⟩
            all_goals
              go_wp2_with fail
              refine wp_region_free 11 [0, 1, 3, 4, 6, 7, 9] Stays (fun _ => none) (by kernel_rfl) (by kernel_rfl) Stays.refl (by simp) (Stays.draw _) Stays.trans (fun j φ v x y hB => by cases hB) ?_
              apply wpFree_late rfl rfl
              · intro vs wx K hK
                go_simp
                exact hK
              intro KK hKK
              go_simp
              refine hKK _ ?_
              clear hKK KK
              apply wpFree_late rfl rfl
              · intro vs wx K hK
                go_simp
                exact hK
              intro KK hKK
              go_simp
              refine hKK _ ?_
              clear hKK KK
              apply wpFree_pure rfl rfl
              · intro vs wx hk K hK
                have c4 := fun i => (hblk3.stays hk.1).cell i
                go_simp
                exact hK _ (Stays.refl _)
              intro KK hKK
              go_simp
              refine hKK _ ?_
              clear hKK KK
              apply wpFree_late rfl rfl
              · intro vs wx K hK
                go_simp
                exact hK
              intro KK hKK
              go_simp
              refine hKK _ ?_
              clear hKK KK
              apply wpFree_late rfl rfl
              · intro vs wx K hK
                go_simp
                exact hK
              intro KK hKK
              go_simp
              refine hKK _ ?_
              clear hKK KK
              apply wpFree_pure rfl rfl
              · intro vs wx hk K hK
                go_simp
                exact hK _ (Stays.refl _)
              intro KK hKK
              go_simp
              refine hKK _ ?_
              clear hKK KK
              apply wpFree_late rfl rfl
              · intro vs wx K hK
                go_simp
                exact hK
              intro KK hKK
              go_simp
              refine hKK _ ?_
              clear hKK KK
              apply wpFree_late rfl rfl
              · intro vs wx K hK
                go_simp
                exact hK
              intro KK hKK
              go_simp
              refine hKK _ ?_
              clear hKK KK
              apply wpFree_pure rfl rfl
              · intro vs wx hk K hK
                go_simp
                exact hK _ (Stays.refl _)
              intro KK hKK
              go_simp
              refine hKK _ ?_
              clear hKK KK
              apply wpFree_late rfl rfl
              · intro vs wx K hK
                go_simp
                exact hK
              intro KK hKK
              go_simp
              refine hKK _ ?_
              clear hKK KK
              apply wpFree_pure rfl rfl
              · intro vs wx hk K hK
                have c4 := fun i => (hblk3.stays hk.1).cell i
                go_simp
                exact hK _ (Stays.refl _)
              intro KK hKK
              go_simp
              refine hKK _ ?_
              clear hKK KK
              refine wpFree_nil ?_
              intro vs w4 hs4 _
              intro KK hKK
              simp only [List.drop_succ_cons, List.drop_zero]
              have hown4 := hown3.stays hs4
              have hblk4 := hblk3.stays hs4
              have Z4 : w2.heap.size < w4.heap.size := Nat.lt_of_lt_of_le Z3 hs4.size
              have B4 := Lib.hid (bt' B3.out hs4)
              clear hs4 hi1 hi2 ha
              go_wp2_with (at_builtin; refine wpList_append_bytes rfl (.tmp 48) (.tmp 59) rfl w2.heap.size u5 acc rfl (hown4.alloc _) ⟨w4.heap.size, 0, none⟩ 5 5 [e, 88, P.hexU (v[k].toNat / 16), P.hexU (v[k].toNat % 16), e] rfl rfl (newsU8 w4 5 [e, 88, P.hexU (v[k].toNat / 16), P.hexU (v[k].toNat % 16), e]) (by simp; omega) (by simp; omega) ?_; intro o4 w5 hown5 hb5)
              have hblk5 := (hblk4.alloc (.cells #[.int .u8 (e.toNat : Int), .int .u8 88, .int .u8 ((P.hexU (v[k].toNat / 16)).toNat : Int), .int .u8 ((P.hexU (v[k].toNat % 16)).toNat : Int), .int .u8 (e.toNat : Int)] 5)).below hb5 Z2.out
              have B5 := Lib.hid (B4.out.trans ((((Below.refl w4.heap.size w4).alloc (Nat.le_refl _) (.cells #[.int .u8 (e.toNat : Int), .int .u8 88, .int .u8 ((P.hexU (v[k].toNat / 16)).toNat : Int), .int .u8 ((P.hexU (v[k].toNat % 16)).toNat : Int), .int .u8 (e.toNat : Int)] 5)).mono B4.out.size).trans (hb5.mono (Nat.le_of_lt Z2.out))))
              have Z5 := Lib.hid (show w2.heap.size < w5.heap.size from by have := hb5.size; simp at this; omega)
              clear hb5 hc3
              go_wp2
              go_roundw
              case rel => exact ⟨k + 1, by omega, by go_num, by rw [HS2.out]; exact hown5, hblk5, Z5.out, B5.out⟩
              case measure => simp [intOf]; omega
          · have HS2 := Lib.hid (show P.esc f c r e s (v.data.toList.take (k + 1)) = acc ++ [v[k]] from by rw [HS.out]; unfold P.escB; rw [if_neg (by simpa using hl), if_neg hp])
            have t1 : (((P.letter f c r e s v[k]).toNat : Int) != 0) = false := by rw [hl]; rfl
            have t2 : decide ((v[k].toNat : Int) < 32) = false := decide_eq_false (by omega)
            have t3 : decide (126 < (v[k].toNat : Int)) = false := decide_eq_false (by omega)
            clear hl hp HS
            go_wp2_with (at_builtin; refine wpList_append_bytes rfl (.tmp 26) (.tmp 28) rfl w2.heap.size u5 acc rfl (hown3.alloc _) ⟨w3.heap.size, 0, none⟩ 1 1 [v[k]] rfl rfl (newsU8 w3 5 [v[k]]) (by simp; omega) (by simp; omega) ?_; intro o4 w4 hown4 hb4)
            have hblk4 := (hblk3.alloc (.cells #[.int .u8 (v[k].toNat : Int)] 5)).below hb4 Z2.out
            have B4 := Lib.hid (B3.out.trans ((((Below.refl w3.heap.size w3).alloc (Nat.le_refl _) (.cells #[.int .u8 (v[k].toNat : Int)] 5)).mono B3.out.size).trans (hb4.mono (Nat.le_of_lt Z2.out))))
            have Z4 := Lib.hid (show w2.heap.size < w4.heap.size from by have := hb4.size; simp at this; omega)
            clear hb4 hc3
            go_wp2
            go_roundw
            case rel => exact ⟨k + 1, by omega, by go_num, by rw [HS2.out]; exact hown4, hblk4, Z4.out, B4.out⟩
            case measure => simp [intOf]; omega
        · have HS2 := Lib.hid (show P.esc f c r e s (v.data.toList.take (k + 1)) = acc ++ [e, P.letter f c r e s v[k], e] from by rw [HS.out]; unfold P.escB; rw [if_pos hl])
          have t1 : (((P.letter f c r e s v[k]).toNat : Int) != 0) = true := by rw [bne_iff_ne]; intro h; exact hl (UInt8.toNat_inj.1 (show _ = 0 from by omega))
          clear hl HS
          generalize P.letter f c r e s v[k] = lt at *
          go_wp2_with (at_builtin; refine wpList_append_bytes rfl (.tmp 33) (.tmp 39) rfl w2.heap.size u5 acc rfl (hown3.alloc _) ⟨w3.heap.size, 0, none⟩ 3 3 [e, lt, e] rfl rfl (newsU8 w3 5 [e, lt, e]) (by simp; omega) (by simp; omega) ?_; intro o4 w4 hown4 hb4)
          have hblk4 := (hblk3.alloc (.cells #[.int .u8 (e.toNat : Int), .int .u8 (lt.toNat : Int), .int .u8 (e.toNat : Int)] 5)).below hb4 Z2.out
          have B4 := Lib.hid (B3.out.trans ((((Below.refl w3.heap.size w3).alloc (Nat.le_refl _) (.cells #[.int .u8 (e.toNat : Int), .int .u8 (lt.toNat : Int), .int .u8 (e.toNat : Int)] 5)).mono B3.out.size).trans (hb4.mono (Nat.le_of_lt Z2.out))))
          have Z4 := Lib.hid (show w2.heap.size < w4.heap.size from by have := hb4.size; simp at this; omega)
          clear hb4 hc3
          go_wp2
          go_roundw
          case rel => exact ⟨k + 1, by omega, by go_num, by rw [HS2.out]; exact hown4, hblk4, Z4.out, B4.out⟩
          case measure => simp [intOf]; omega
      · have hkn : k = v.size := by omega
        subst hkn
        have HT := Lib.hid (show P.esc f c r e s (v.data.toList.take v.size) = P.esc f c r e s v.data.toList from by rw [List.take_of_length_le (by simp)])
        generalize P.esc f c r e s (v.data.toList.take v.size) = l at *
        have hst := hown.string
        clear hown hblk
        go_wp2
        go_ret
        rw [HV.out, ← HT.out]
        exact ⟨rfl, hbel⟩
end Go.Proofs.Ytefebcibcmjbaab
