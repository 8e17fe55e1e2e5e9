/- Part E2 of the proof: the statement that is proved stands in the text that ends with its name. No conditions beyond the card's. -/
import Derived.Test.YtmabpnmnppfgaaaGreatDoorA3
import Derived.RegionTactic
namespace Go.Proofs.YtmabpnmnppfgaaaGreatDoor
set_option linter.unusedVariables false
open Go Go.RowKit Go.BigFrame
set_option maxRecDepth 100000 in
set_option maxHeartbeats 400000 in
theorem refNib_any (c : UInt8) (w : World) :
    Calls Tryz.prog 269 #[.int .u8 (c.toNat : Int)] w fun e w' => e = .returned (.int .i64 (P.nib c)) ∧ w = w' := by
  have hb := c.toNat_lt
  have hn : P.nib c = if 48 ≤ c.toNat ∧ c.toNat ≤ 57 then (c.toNat : Int) - 48 else if 97 ≤ c.toNat ∧ c.toNat ≤ 102 then (c.toNat : Int) - 87 else if 65 ≤ c.toNat ∧ c.toNat ≤ 70 then (c.toNat : Int) - 55 else -1 := rfl
  generalize P.nib c = r at *
  generalize c.toNat = n at *
  rcases (by omega : n < 48 ∨ (48 ≤ n ∧ n ≤ 57) ∨ (57 < n ∧ n < 65) ∨ (65 ≤ n ∧ n ≤ 70) ∨ (70 < n ∧ n < 97) ∨ (97 ≤ n ∧ n ≤ 102) ∨ (102 < n)) with h | ⟨h, h'⟩ | ⟨h, h'⟩ | ⟨h, h'⟩ | ⟨h, h'⟩ | ⟨h, h'⟩ | h <;>
  (have hr : r = if 48 ≤ n ∧ n ≤ 57 then (n : Int) - 48 else if 97 ≤ n ∧ n ≤ 102 then (n : Int) - 87 else if 65 ≤ n ∧ n ≤ 70 then (n : Int) - 55 else -1 := hn
   have HR := Lib.hid hr
   clear hn hr
   go_enter Tryz.func269, Tryz.ntmps269
   go_wp2
   go_ret
   refine ⟨?_, rfl⟩
   have h2 := HR.out
   repeat (first | rw [if_pos (by omega)] at h2 | rw [if_neg (by omega)] at h2)
   rw [h2]
   first | rfl | (refine congrArg (fun x => Ending.returned (Value.int .i64 x)) ?_; omega))
set_option maxRecDepth 100000 in
set_option maxHeartbeats 4000000 in
theorem quoted_any (s : ByteArray) (at_ : Nat) (w : World) (hs : s.size ≤ 1000000) (h0 : at_ < s.size) :
    Calls Tryz.prog 210 #[.string s, .int .i64 (at_ : Int)] w fun e w' => e = .returned (.tuple #[.string ⟨(Ad.textV (s.data.toList.drop (at_ + 1))).toArray⟩, .int .i64 (Ad.textN (s.data.toList.drop (at_ + 1)) : Nat)]) ∧ Below w.heap.size w w' := by
  obtain ⟨L, hL⟩ : ∃ L, L = s.data.toList.drop at_ := ⟨_, rfl⟩
  have HLen := Lib.hid (show L.length = s.size - at_ by rw [hL]; simp)
  obtain ⟨V, hV⟩ : ∃ V, V = Ad.textV (L.drop 1) := ⟨_, rfl⟩
  obtain ⟨N, hN⟩ : ∃ N, N = Ad.textN (L.drop 1) := ⟨_, rfl⟩
  rw [show s.data.toList.drop (at_ + 1) = L.drop 1 by rw [hL, List.drop_drop], ← hV, ← hN]
  have HV := Lib.hid hV
  have HN := Lib.hid hN
  have HD0 := Lib.hid (show ∀ (k : Nat) (h : k < s.size), at_ ≤ k → L.drop (k - at_) = s[k] :: L.drop (k + 1 - at_) from fun k h hk => by
    rw [hL, List.drop_drop, List.drop_drop, show at_ + (k - at_) = k by omega, show at_ + (k + 1 - at_) = k + 1 by omega, List.drop_eq_getElem_cons (by simpa using h)]; rfl)
  have KV := Lib.hid (show ∀ (c : UInt8) (v : Int), P.nib c = v → ∀ W : World, Calls Tryz.prog 269 #[.int .u8 (c.toNat : Int)] W fun e w' => e = .returned (.int .i64 v) ∧ W = w' from fun c v h W => by
    have := refNib_any c W
    rwa [h] at this)
  clear hV hN hL
  go_enter Tryz.func210, Tryz.ntmps210
  go_wp2_with fail
  go_loopw [6, 7] (fun v x wr => ∃ (i : Nat) (out : Ad.Bs), x = .int .i64 i ∧ at_ + 1 ≤ i ∧ i ≤ s.size ∧ out.length ≤ i ∧ Ad.TextAt L (i - at_) out ∧ OwnB wr w.heap.size v out ∧ Below w.heap.size w wr) (fun _ x _ => s.size - (intOf x).toNat)
  case atStart => exact ⟨at_ + 1, [], by go_num, by omega, by omega, by simp, by rw [show at_ + 1 - at_ = 1 by omega]; unfold Ad.TextAt; cases Ad.text (L.drop 1) <;> simp, OwnB.nil _ _, Below.refl _ _⟩
  case round =>
    obtain ⟨i, out, rfl, hk1, hk, hol, hat, hown, hbel⟩ := hrel
    have HAT := Lib.hid hat
    clear hat
    have hki : 1 ≤ i - at_ := by omega
    by_cases hlt : i < s.size
    · have hd : L.drop (i - at_) = s[i] :: L.drop (i + 1 - at_) := HD0.out i hlt (by omega)
      have HD := Lib.hid hd
      clear hd
      have hi1 : ∀ W : World, (Instr.index 9 (.string s) (.int .i64 (i : Int))).run Tryz.prog W = .ok (.int .u8 (s[i].toNat : Int)) W := fun W => idx_atu s i hlt rfl W
      have hc := s[i].toNat_lt
      generalize s[i] = c at *
      by_cases c34 : c.toNat = 34
      · obtain ⟨e1, e2⟩ := HAT.out.end_ hki (by rw [HD.out]; exact Ad.text_end c34)
        rw [← HV.out] at e1
        rw [← HN.out] at e2
        have E1 := Lib.hid e1
        have E2 := Lib.hid (show (i : Int) + 1 - at_ = (N : Int) by omega)
        have hst := hown.string
        have hq : ((c.toNat : Int) == 34) = true := by rw [c34]; rfl
        clear e1 e2 c34
        go_wp2_with fail
        go_ret2
        refine ⟨?_, hbel⟩
        rw [← E2.out, E1.out]
        rfl
      · have q1 : ((c.toNat : Int) == 34) = false := by rw [beq_eq_false_iff_ne]; omega
        by_cases cb : c.toNat < 32 ∨ 126 < c.toNat
        · obtain ⟨e1, e2⟩ := HAT.out.none (by rw [HD.out]; exact Ad.text_bad c34 cb)
          rw [← HV.out] at e1
          rw [← HN.out] at e2
          have E1 := Lib.hid e1
          have E2 := Lib.hid e2
          clear e1 e2
          rcases (by omega : c.toNat < 32 ∨ (¬ c.toNat < 32 ∧ 126 < c.toNat)) with h | ⟨h, h'⟩
          all_goals
            clear cb c34
            go_wp2_with fail
            go_ret2
            rw [E1.out, E2.out]
            exact ⟨rfl, hbel⟩
        · have h32 : ¬ c.toNat < 32 := by omega
          have h126 : ¬ 126 < c.toNat := by omega
          by_cases c92 : c.toNat = 92
          · have q2 : ((c.toNat : Int) != 92) = false := by rw [c92]; rfl
            by_cases hl1 : i + 1 < s.size
            · have HD2 := Lib.hid (show L.drop (i - at_) = c :: s[i + 1] :: L.drop (i + 2 - at_) by rw [HD.out, HD0.out (i + 1) hl1 (by omega)])
              have hi2 : ∀ W : World, (Instr.index 9 (.string s) (.int .i64 ((i : Int) + 1))).run Tryz.prog W = .ok (.int .u8 (s[i + 1].toNat : Int)) W := fun W => idx_atu s (i + 1) hl1 (by omega) W
              have hdb := s[i + 1].toNat_lt
              generalize s[i + 1] = d at *
              by_cases hesc : d.toNat = 34 ∨ d.toNat = 92
              · have HA := Lib.hid (HAT.out.go (j := 2) (v := [d]) hki (by rw [HD2.out, show i - at_ + 2 = i + 2 - at_ by omega]; exact Ad.text_esc c92 hesc))
                obtain ⟨x1, hx1⟩ : ∃ x, ((d.toNat : Int) == 34) = x := ⟨_, rfl⟩
                obtain ⟨x2, hx2⟩ : ∃ x, ((d.toNat : Int) == 92) = x := ⟨_, rfl⟩
                have hxx : x1 = true ∨ (x1 = false ∧ x2 = true) := by
                  rcases hesc with h | h
                  · left; rw [← hx1, h]; rfl
                  · right; exact ⟨by rw [← hx1, h]; rfl, by rw [← hx2, h]; rfl⟩
                clear hesc c34 cb c92
                rcases hxx with rfl | ⟨rfl, rfl⟩
                all_goals
                  go_wp2_with (at_builtin; refine wpList_append_bytes rfl (.tmp 63) (.tmp 68) rfl w.heap.size _ out rfl (hown.alloc _) ⟨wr.heap.size, 0, none⟩ 1 1 [d] rfl rfl (newsU8 wr 5 [d]) (by simp; omega) (by have := hbel.size; simp; omega) ?_; intro o4 w4 hown4 hb4)
                  have Hb4 := Lib.hid (show Below w.heap.size w w4 from (hbel.alloc hbel.size _).trans hb4)
                  clear hb4 hbel hown hi1 hi2
                  go_wp2_with fail
                  go_roundw
                  case rel => exact ⟨i + 2, out ++ [d], by go_num, by omega, by omega, by simp; omega, by rw [show i + 2 - at_ = i - at_ + 2 by omega]; exact HA.out, hown4, Hb4.out⟩
                  case measure => simp [intOf]; omega
              · have y1 : ((d.toNat : Int) == 34) = false := by rw [beq_eq_false_iff_ne]; omega
                have y2 : ((d.toNat : Int) == 92) = false := by rw [beq_eq_false_iff_ne]; omega
                by_cases hl3 : i + 3 < s.size
                · by_cases d120 : d.toNat = 120
                  · have y3 : ((d.toNat : Int) == 120) = true := by rw [d120]; rfl
                    have HD3 := Lib.hid (show L.drop (i + 2 - at_) = s[i + 2] :: s[i + 3] :: L.drop (i + 4 - at_) by rw [HD0.out (i + 2) (by omega) (by omega), HD0.out (i + 3) hl3 (by omega)])
                    have hi3 : ∀ W : World, (Instr.index 9 (.string s) (.int .i64 ((i : Int) + 2))).run Tryz.prog W = .ok (.int .u8 (s[i + 2].toNat : Int)) W := fun W => idx_atu s (i + 2) (by omega) (by omega) W
                    have hi4 : ∀ W : World, (Instr.index 9 (.string s) (.int .i64 ((i : Int) + 3))).run Tryz.prog W = .ok (.int .u8 (s[i + 3].toNat : Int)) W := fun W => idx_atu s (i + 3) hl3 (by omega) W
                    have n3 := P.nib_lt s[i + 2]
                    have n4 := P.nib_lt s[i + 3]
                    have HT := Lib.hid (show Ad.text (L.drop (i - at_)) = if P.nib s[i + 2] < 0 ∨ P.nib s[i + 3] < 0 then none else (Ad.text (L.drop (i - at_ + 4))).map fun x => ([UInt8.ofNat (16 * (P.nib s[i + 2]).toNat + (P.nib s[i + 3]).toNat)] ++ x.1, x.2 + 4) from by
                      rw [HD2.out, HD3.out, Ad.text_hex c92 d120, show i - at_ + 4 = i + 4 - at_ by omega]
                      have e : P.unhex [s[i + 2], s[i + 3]] = if P.nib s[i + 2] < 0 ∨ P.nib s[i + 3] < 0 then none else (P.unhex []).map (UInt8.ofNat (16 * (P.nib s[i + 2]).toNat + (P.nib s[i + 3]).toNat) :: ·) := rfl
                      rw [e]
                      by_cases hb : P.nib s[i + 2] < 0 ∨ P.nib s[i + 3] < 0
                      · rw [if_pos hb, if_pos hb]
                      · rw [if_neg hb, if_neg hb]
                        rfl)
                    generalize s[i + 2] = a3 at *
                    generalize s[i + 3] = a4 at *
                    have hc3 := a3.toNat_lt
                    have hc4 := a4.toNat_lt
                    obtain ⟨x, hx⟩ : ∃ x, P.nib a3 = x := ⟨_, rfl⟩
                    obtain ⟨y, hy⟩ : ∃ y, P.nib a4 = y := ⟨_, rfl⟩
                    rw [hx] at n3 HT
                    rw [hy] at n4 HT
                    by_cases hbad : x < 0 ∨ y < 0
                    · obtain ⟨e1, e2⟩ := HAT.out.none (HT.out.trans (if_pos hbad))
                      rw [← HV.out] at e1
                      rw [← HN.out] at e2
                      have E1 := Lib.hid e1
                      have E2 := Lib.hid e2
                      clear e1 e2 c34 cb c92 hesc d120
                      rcases (by omega : x < 0 ∨ (¬ x < 0 ∧ y < 0)) with h | ⟨h, h'⟩
                      all_goals
                        clear hbad
                        go_wp2_with (go_at_call 269; refine (KV.out _ _ (by assumption) _).mono ?_; rintro e w2 ⟨rfl, rfl⟩)
                        go_ret2
                        rw [E1.out, E2.out]
                        exact ⟨rfl, hbel⟩
                    · obtain ⟨na, rfl⟩ := Int.eq_ofNat_of_zero_le (by omega : 0 ≤ x)
                      obtain ⟨nb, rfl⟩ := Int.eq_ofNat_of_zero_le (by omega : 0 ≤ y)
                      have HA := Lib.hid (show Ad.TextAt L (i - at_ + 4) (out ++ [UInt8.ofNat (16 * na + nb)]) from by
                        have h := HAT.out.go (j := 4) hki (HT.out.trans (if_neg hbad))
                        simpa only [Int.toNat_natCast] using h)
                      clear c34 cb c92 hesc d120 hbad HT
                      go_upto_region 17 with (go_at_call 269; refine (KV.out _ _ (by assumption) _).mono ?_; rintro e w2 ⟨rfl, rfl⟩)
                      have hw2 : IntKind.i64.wrap ((i : Int) + 2) = (i : Int) + 2 := by rw [IntKind.wrap_i64]; omega
                      have hw3 : IntKind.i64.wrap ((i : Int) + 3) = (i : Int) + 3 := by rw [IntKind.wrap_i64]; omega
                      have hwm : IntKind.i64.wrap (16 * (na : Int)) = 16 * (na : Int) := by rw [IntKind.wrap_i64]; omega
                      have hwa : IntKind.i64.wrap (16 * (na : Int) + (nb : Int)) = 16 * (na : Int) + (nb : Int) := by rw [IntKind.wrap_i64]; omega
                      refine wp_region_free 15 [] Stays (fun | 14 => some fun v w' => ∃ j, v = .slice (some ⟨j, 0, none⟩) 1 1 ∧ wr.heap.size ≤ j ∧ Blk w' j 5 #[.int .u8 ((16 * (na : Int) + (nb : Int)) % 256)] | _ => none) (by kernel_rfl) (by kernel_rfl) Stays.refl (by simp) (Stays.draw _) Stays.trans ?_ ?_
                      · intro j φ v x y hB hp hxy
                        split at hB <;> cases hB
                        obtain ⟨j, hv, h1, hb⟩ := hp
                        exact ⟨j, hv, h1, hb.stays hxy⟩
                      · apply wpFree_pure rfl rfl
                        · intro vs wx hk K hK
                          go_simp
                          exact hK _ (Stays.refl _)
                        intro KK hKK
                        go_simp
                        refine hKK _ ?_
                        clear hKK KK
                        apply wpFree_pure rfl rfl
                        · intro vs wx hk K hK
                          go_simp
                          exact hK _ (Stays.refl _)
                        intro KK hKK
                        go_simp
                        refine hKK _ ?_
                        clear hKK KK
                        apply wpFree_pure rfl rfl
                        · intro vs wx hk K hK
                          go_simp
                          exact hK _ (Stays.refl _)
                        intro KK hKK
                        go_simp
                        refine hKK _ ?_
                        clear hKK KK
                        apply wpFree_pure rfl rfl
                        · intro vs wx hk K hK
                          go_simp
                          exact hK _ (Stays.refl _)
                        intro KK hKK
                        go_simp
                        refine hKK _ ?_
                        clear hKK KK
                        apply wpFree_pure rfl rfl
                        · intro vs wx hk K hK
                          go_simp
                          exact hK _ (Stays.refl _)
                        intro KK hKK
                        go_simp
                        refine hKK _ ?_
                        clear hKK KK
                        apply wpFree_pure rfl rfl
                        · intro vs wx hk K hK
                          go_simp
                          first
                            | exact hK _ (Stays.refl _)
                            | go_at_call 269; refine (KV.out _ _ (by assumption) _).mono ?_; rintro e w2 ⟨rfl, rfl⟩; exact ⟨_, rfl, hK _ (Stays.refl _)⟩
                        intro KK hKK
                        go_simp
                        refine hKK _ ?_
                        clear hKK KK
                        apply wpFree_pure rfl rfl
                        · intro vs wx hk K hK
                          go_simp
                          exact hK _ (Stays.refl _)
                        intro KK hKK
                        go_simp
                        refine hKK _ ?_
                        clear hKK KK
                        apply wpFree_pure rfl rfl
                        · intro vs wx hk K hK
                          go_simp
                          exact hK _ (Stays.refl _)
                        intro KK hKK
                        go_simp
                        refine hKK _ ?_
                        clear hKK KK
                        apply wpFree_pure rfl rfl
                        · intro vs wx hk K hK
                          go_simp
                          exact hK _ (Stays.refl _)
                        intro KK hKK
                        go_simp
                        refine hKK _ ?_
                        clear hKK KK
                        apply wpFree_pure rfl rfl
                        · intro vs wx hk K hK
                          go_simp
                          exact hK _ (Stays.refl _)
                        intro KK hKK
                        go_simp
                        refine hKK _ ?_
                        clear hKK KK
                        apply wpFree_pure rfl rfl
                        · intro vs wx hk K hK
                          go_simp
                          exact hK _ (Stays.refl _)
                        intro KK hKK
                        go_simp
                        refine hKK _ ?_
                        clear hKK KK
                        apply wpFree_pure rfl rfl
                        · intro vs wx hk K hK
                          go_simp
                          first
                            | exact hK _ (Stays.refl _)
                            | go_at_call 269; refine (KV.out _ _ (by assumption) _).mono ?_; rintro e w2 ⟨rfl, rfl⟩; exact ⟨_, rfl, hK _ (Stays.refl _)⟩
                        intro KK hKK
                        go_simp
                        refine hKK _ ?_
                        clear hKK KK
                        apply wpFree_pure rfl rfl
                        · intro vs wx hk K hK
                          go_simp
                          exact hK _ (Stays.refl _)
                        intro KK hKK
                        go_simp
                        refine hKK _ ?_
                        clear hKK KK
                        apply wpFree_pure rfl rfl
                        · intro vs wx hk K hK
                          go_simp
                          exact hK _ (Stays.refl _)
                        intro KK hKK
                        go_simp
                        refine hKK _ ?_
                        clear hKK KK
                        refine wpFree_fact rfl ?_ ?_
                        · intro vs wx hk K hK
                          go_simp
                          exact hK _ _ (Stays.alloc _ _) ⟨_, rfl, hk.1.size, Blk.new _ _ _⟩
                        intro KK hKK
                        go_simp
                        refine hKK _ ?_
                        clear hKK KK
                        refine wpFree_nil ?_
                        intro vs w5 hs5 hf5
                        obtain ⟨j14, hv14, hge, hb14⟩ := hf5 14 _ (by omega) rfl
                        intro KK hKK
                        rw [hv14]
                        simp only [List.drop_succ_cons, List.drop_zero]
                        have hown5 := hown.below hs5 (Nat.le_refl _)
                        have hbel5 : Below w.heap.size w w5 := hbel.trans (Below.mono hs5 hbel.size)
                        have hnews : ∀ (j : Nat) (u : UInt8), [UInt8.ofNat (16 * na + nb)][j]? = some u → w5.cell? ((⟨j14, 0, none⟩ : Addr).add j) = some (valU8 u) := by
                          intro j u hu
                          cases j with
                          | zero =>
                            simp at hu
                            subst hu
                            have h : w5.cell? ⟨j14, 0, none⟩ = some (.int .u8 ((16 * (na : Int) + (nb : Int)) % 256)) := hb14.cell 0
                            rw [show ((⟨j14, 0, none⟩ : Addr).add 0) = ⟨j14, 0, none⟩ from rfl, h]
                            unfold valU8
                            congr 2
                            simp
                          | succ j => simp at hu
                        clear hs5 hf5 hv14 hge hb14 hw2 hw3 hwm hwa hi1 hi2 hi3 hi4 hown hbel
                        refine wpList_append_bytes rfl (.tmp 101) (.tmp 115) rfl w.heap.size _ out rfl hown5 ⟨j14, 0, none⟩ 1 1 [UInt8.ofNat (16 * na + nb)] rfl rfl hnews (by simp; omega) hbel5.size ?_
                        intro o4 w4 hown4 hb4
                        have Hb4 := Lib.hid (show Below w.heap.size w w4 from hbel5.trans hb4)
                        clear hb4 hbel5 hown5 hnews
                        go_wp2_with fail
                        go_roundw
                        case rel => exact ⟨i + 4, out ++ [UInt8.ofNat (16 * na + nb)], by go_num, by omega, by omega, by simp; omega, by rw [show i + 4 - at_ = i - at_ + 4 by omega]; exact HA.out, hown4, Hb4.out⟩
                        case measure => simp [intOf]; omega
                  · have y3 : ((d.toNat : Int) == 120) = false := by rw [beq_eq_false_iff_ne]; omega
                    obtain ⟨e1, e2⟩ := HAT.out.none (by rw [HD2.out]; exact Ad.text_noesc c92 (by omega) d120)
                    rw [← HV.out] at e1
                    rw [← HN.out] at e2
                    have E1 := Lib.hid e1
                    have E2 := Lib.hid e2
                    clear e1 e2 c34 cb c92 hesc d120
                    go_wp2_with fail
                    go_ret2
                    rw [E1.out, E2.out]
                    exact ⟨rfl, hbel⟩
                · have hl3' : ¬ ((i : Int) + 3 < (s.size : Int)) := by omega
                  obtain ⟨e1, e2⟩ := HAT.out.none (by rw [HD2.out]; exact Ad.text_short c92 (by omega) (by rw [List.length_drop, HLen.out]; omega))
                  rw [← HV.out] at e1
                  rw [← HN.out] at e2
                  have E1 := Lib.hid e1
                  have E2 := Lib.hid e2
                  clear e1 e2 c34 cb c92 hesc
                  go_wp2_with fail
                  go_ret2
                  rw [E1.out, E2.out]
                  exact ⟨rfl, hbel⟩
            · have hl1' : ¬ ((i : Int) + 1 < (s.size : Int)) := by omega
              have hl3' : ¬ ((i : Int) + 3 < (s.size : Int)) := by omega
              have hd2 : L.drop (i + 1 - at_) = [] := List.drop_eq_nil_of_le (by rw [HLen.out]; omega)
              obtain ⟨e1, e2⟩ := HAT.out.none (by rw [HD.out, hd2]; exact Ad.text_one c92)
              rw [← HV.out] at e1
              rw [← HN.out] at e2
              have E1 := Lib.hid e1
              have E2 := Lib.hid e2
              clear e1 e2 c34 cb c92 hd2
              go_wp2_with fail
              go_ret2
              rw [E1.out, E2.out]
              exact ⟨rfl, hbel⟩
          · have q2 : ((c.toNat : Int) != 92) = true := by rw [bne_iff_ne]; omega
            have HA := Lib.hid (HAT.out.go (j := 1) (v := [c]) hki (by rw [HD.out, show i - at_ + 1 = i + 1 - at_ by omega]; exact Ad.text_plain c34 ⟨by omega, by omega⟩ c92))
            clear c34 cb c92
            go_wp2_with (at_builtin; refine wpList_append_bytes rfl (.tmp 37) (.tmp 39) rfl w.heap.size _ out rfl (hown.alloc _) ⟨wr.heap.size, 0, none⟩ 1 1 [c] rfl rfl (newsU8 wr 5 [c]) (by simp; omega) (by have := hbel.size; simp; omega) ?_; intro o4 w4 hown4 hb4)
            have Hb4 := Lib.hid (show Below w.heap.size w w4 from (hbel.alloc hbel.size _).trans hb4)
            clear hb4 hbel hown hi1
            go_wp2_with fail
            go_roundw
            case rel => exact ⟨i + 1, out ++ [c], by go_num, by omega, by omega, by simp; omega, by rw [show i + 1 - at_ = i - at_ + 1 by omega]; exact HA.out, hown4, Hb4.out⟩
            case measure => simp [intOf]; omega
    · have hd : L.drop (i - at_) = [] := List.drop_eq_nil_of_le (by rw [HLen.out]; omega)
      obtain ⟨e1, e2⟩ := HAT.out.none (by rw [hd]; exact Ad.text_nil)
      rw [← HV.out] at e1
      rw [← HN.out] at e2
      have E1 := Lib.hid e1
      have E2 := Lib.hid e2
      clear e1 e2 hd
      go_wp2_with fail
      go_ret2
      rw [E1.out, E2.out]
      exact ⟨rfl, hbel⟩
end Go.Proofs.YtmabpnmnppfgaaaGreatDoor
