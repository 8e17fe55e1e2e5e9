/- Part A2 of the proof: the statement that is proved stands in the text that ends with its name. No conditions beyond the card's. -/
import Derived.Test.YtmabpnmnppfgaaaGreatDoorP4
import Derived.Test.YtmabpnmnppfgaaaGreatDoorB1
namespace Go.Proofs.YtmabpnmnppfgaaaGreatDoor
set_option linter.unusedVariables false
open Go Go.RowKit Go.BigFrame
namespace Ad
def textV (l : Bs) : Bs := match text l with | none => [] | some x => x.1
def textN (l : Bs) : Nat := match text l with | none => 0 | some x => x.2 + 1
def TextAt (s : Bs) (k : Nat) (out : Bs) : Prop := text (s.drop 1) = (text (s.drop k)).map fun y => (out ++ y.1, y.2 + (k - 1))
theorem TextAt.none {s out : Bs} {k : Nat} (h : TextAt s k out) (hn : text (s.drop k) = none) : textV (s.drop 1) = [] ∧ textN (s.drop 1) = 0 := by
  unfold TextAt at h
  unfold textV textN
  rw [h, hn]
  exact ⟨rfl, rfl⟩
theorem TextAt.end_ {s out : Bs} {k : Nat} (h : TextAt s k out) (hk : 1 ≤ k) (hn : text (s.drop k) = some ([], 1)) : textV (s.drop 1) = out ∧ textN (s.drop 1) = k + 1 := by
  unfold TextAt at h
  unfold textV textN
  rw [h, hn]
  simp
  omega
theorem TextAt.go {s out v : Bs} {k j : Nat} (h : TextAt s k out) (hk : 1 ≤ k) (hn : text (s.drop k) = (text (s.drop (k + j))).map fun y => (v ++ y.1, y.2 + j)) : TextAt s (k + j) (out ++ v) := by
  unfold TextAt at h ⊢
  rw [h, hn]
  cases text (s.drop (k + j)) with
  | none => rfl
  | some y => simp; omega
end Ad
set_option maxRecDepth 100000 in
set_option maxHeartbeats 1600000 in
theorem text_any (s : ByteArray) (w : World) (hs : s.size ≤ 1000000) (h0 : 0 < s.size) :
    Calls Tryz.prog 215 #[.string s] w fun e w' => e = .returned (.tuple #[.string ⟨(Ad.textV (s.data.toList.drop 1)).toArray⟩, .int .i64 (Ad.textN (s.data.toList.drop 1) : Nat)]) ∧ Below w.heap.size w w' := by
  obtain ⟨L, hL⟩ : ∃ L, L = s.data.toList := ⟨_, rfl⟩
  have HLen := Lib.hid (show L.length = s.size by rw [hL]; simp)
  obtain ⟨V, hV⟩ : ∃ V, V = Ad.textV (L.drop 1) := ⟨_, rfl⟩
  obtain ⟨N, hN⟩ : ∃ N, N = Ad.textN (L.drop 1) := ⟨_, rfl⟩
  rw [← hL, ← hV, ← hN]
  have HV := Lib.hid hV
  have HN := Lib.hid hN
  have HL := Lib.hid hL
  clear hV hN hL
  go_enter Tryz.func215, Tryz.ntmps215
  go_wp2_with fail
  go_loopw [4, 5] (fun v x wr => ∃ (k : Nat) (out : Ad.Bs), x = .int .i64 k ∧ 1 ≤ k ∧ k ≤ s.size ∧ out.length ≤ k ∧ Ad.TextAt L k out ∧ OwnB wr w.heap.size v out ∧ Below w.heap.size w wr) (fun _ x _ => s.size - (intOf x).toNat)
  case atStart => exact ⟨1, [], rfl, by omega, by omega, by simp, by unfold Ad.TextAt; cases Ad.text (L.drop 1) <;> simp, OwnB.nil _ _, Below.refl _ _⟩
  case round =>
    obtain ⟨k, out, rfl, hk1, hk, hol, hat, hown, hbel⟩ := hrel
    have HAT := Lib.hid hat
    clear hat
    by_cases hlt : k < s.size
    · have hd : L.drop k = s[k] :: L.drop (k + 1) := by
        rw [HL.out, List.drop_eq_getElem_cons (by simpa using hlt)]; rfl
      have HD := Lib.hid hd
      clear hd
      have hi1 : ∀ W : World, (Instr.index 9 (.string s) (.int .i64 (k : Int))).run Tryz.prog W = .ok (.int .u8 (s[k].toNat : Int)) W := fun W => idx_atu s k hlt rfl W
      have hc := s[k].toNat_lt
      generalize s[k] = c at *
      by_cases c34 : c.toNat = 34
      · obtain ⟨e1, e2⟩ := HAT.out.end_ hk1 (by rw [HD.out]; exact Ad.text_end c34)
        rw [← HV.out] at e1
        rw [← HN.out] at e2
        have E1 := Lib.hid e1
        have E2 := Lib.hid e2
        have hst := hown.string
        have hq : ((c.toNat : Int) == 34) = true := by rw [c34]; rfl
        clear e1 e2 c34
        go_wp2_with fail
        go_ret2
        rw [E1.out, E2.out]
        exact ⟨rfl, hbel⟩
      · have q1 : ((c.toNat : Int) == 34) = false := by rw [beq_eq_false_iff_ne]; omega
        by_cases cb : c.toNat < 32 ∨ 126 < c.toNat
        · obtain ⟨e1, e2⟩ := HAT.out.none (by rw [HD.out]; exact Ad.text_bad c34 cb)
          rw [← HV.out] at e1
          rw [← HN.out] at e2
          have E1 := Lib.hid e1
          have E2 := Lib.hid e2
          clear e1 e2
          rcases (by omega : c.toNat < 32 ∨ (¬ c.toNat < 32 ∧ 126 < c.toNat)) with h | ⟨h, h'⟩
          all_goals
            clear cb c34
            go_wp2_with fail
            go_ret2
            rw [E1.out, E2.out]
            exact ⟨rfl, hbel⟩
        · have h32 : ¬ c.toNat < 32 := by omega
          have h126 : ¬ 126 < c.toNat := by omega
          by_cases c92 : c.toNat = 92
          · have q2 : ((c.toNat : Int) != 92) = false := by rw [c92]; rfl
            by_cases hl1 : k + 1 < s.size
            · have hd2 : L.drop (k + 1) = s[k + 1] :: L.drop (k + 2) := by
                rw [HL.out, List.drop_eq_getElem_cons (by simpa using hl1)]; rfl
              have HD2 := Lib.hid (show L.drop k = c :: s[k + 1] :: L.drop (k + 2) by rw [HD.out, hd2])
              clear hd2
              have hi2 : ∀ W : World, (Instr.index 9 (.string s) (.int .i64 ((k : Int) + 1))).run Tryz.prog W = .ok (.int .u8 (s[k + 1].toNat : Int)) W := fun W => idx_atu s (k + 1) hl1 (by omega) W
              have hdb := s[k + 1].toNat_lt
              generalize s[k + 1] = d at *
              by_cases hesc : d.toNat = 34 ∨ d.toNat = 92
              · have HA := Lib.hid (HAT.out.go (j := 2) (v := [d]) hk1 (by rw [HD2.out]; exact Ad.text_esc c92 hesc))
                obtain ⟨x1, hx1⟩ : ∃ x, ((d.toNat : Int) == 34) = x := ⟨_, rfl⟩
                obtain ⟨x2, hx2⟩ : ∃ x, ((d.toNat : Int) == 92) = x := ⟨_, rfl⟩
                have hxx : x1 = true ∨ (x1 = false ∧ x2 = true) := by
                  rcases hesc with h | h
                  · left; rw [← hx1, h]; rfl
                  · right; exact ⟨by rw [← hx1, h]; rfl, by rw [← hx2, h]; rfl⟩
                clear hesc c34 cb c92
                rcases hxx with rfl | ⟨rfl, rfl⟩
                all_goals
                  go_wp2_with (at_builtin; refine wpList_append_bytes rfl (.tmp 61) (.tmp 65) rfl w.heap.size _ out rfl (hown.alloc _) ⟨wr.heap.size, 0, none⟩ 1 1 [d] rfl rfl (newsU8 wr 5 [d]) (by simp; omega) (by have := hbel.size; simp; omega) ?_; intro o4 w4 hown4 hb4)
                  have Hb4 := Lib.hid (show Below w.heap.size w w4 from (hbel.alloc hbel.size _).trans hb4)
                  clear hb4 hbel hown hi1 hi2
                  go_wp2_with fail
                  go_roundw
                  case rel => exact ⟨k + 2, out ++ [d], by go_num, by omega, by omega, by simp; omega, HA.out, hown4, Hb4.out⟩
                  case measure => simp [intOf]; omega
              · have y1 : ((d.toNat : Int) == 34) = false := by rw [beq_eq_false_iff_ne]; omega
                have y2 : ((d.toNat : Int) == 92) = false := by rw [beq_eq_false_iff_ne]; omega
                by_cases hl3 : k + 3 < s.size
                · by_cases d120 : d.toNat = 120
                  · have y3 : ((d.toNat : Int) != 120) = false := by rw [d120]; rfl
                    have hd3 : L.drop (k + 2) = s[k + 2] :: s[k + 3] :: L.drop (k + 4) := by
                      rw [HL.out, List.drop_eq_getElem_cons (by simpa using (by omega : k + 2 < s.size)), List.drop_eq_getElem_cons (by simpa using hl3)]; rfl
                    have hsub : (s.extract (k + 2) (k + 4)).data.toList = [s[k + 2], s[k + 3]] := by
                      have := ext_mid s (k + 2) 2
                      rw [← HL.out, hd3] at this
                      simpa using this
                    have KU := unhex_any (s.extract (k + 2) (k + 4)) wr (by rw [ByteArray.size_extract]; omega)
                    rw [hsub] at KU
                    have HT : Ad.text (L.drop k) = match P.unhex [s[k + 2], s[k + 3]] with | none => none | some v => (Ad.text (L.drop (k + 4))).map fun x => (v ++ x.1, x.2 + 4) := by
                      rw [HD2.out, hd3]
                      exact Ad.text_hex c92 d120
                    have HU4 : ∀ u, P.unhex [s[k + 2], s[k + 3]] = some u → u.length = 1 := fun u hu => by
                      have e : P.unhex [s[k + 2], s[k + 3]] = if P.nib s[k + 2] < 0 ∨ P.nib s[k + 3] < 0 then none else (P.unhex []).map (UInt8.ofNat (16 * (P.nib s[k + 2]).toNat + (P.nib s[k + 3]).toNat) :: ·) := rfl
                      rw [e] at hu
                      split at hu
                      · cases hu
                      · simp [P.unhex] at hu
                        subst hu
                        rfl
                    have hsz2 : (s.extract (k + 2) (k + 4)).size = 2 := by rw [ByteArray.size_extract]; omega
                    unfold P.unhexS P.unhexE at KU
                    generalize P.unhex [s[k + 2], s[k + 3]] = ux at *
                    cases ux with
                    | none =>
                      obtain ⟨e1, e2⟩ := HAT.out.none HT
                      rw [← HV.out] at e1
                      rw [← HN.out] at e2
                      have E1 := Lib.hid e1
                      have E2 := Lib.hid e2
                      have KK := Lib.hid KU
                      clear e1 e2 c34 cb c92 hesc d120 KU HT HU4 hd3 hsub
                      go_wp2_with fail
                      refine KK.out.mono ?_
                      rintro e w2 ⟨rfl, hb2⟩
                      go_wp2_with fail
                      go_ret2
                      rw [E1.out, E2.out]
                      exact ⟨rfl, hbel.trans (hb2.mono hbel.size)⟩
                    | some u =>
                      have HA := Lib.hid (HAT.out.go (j := 4) (v := u) hk1 HT)
                      have HU := Lib.hid (HU4 u rfl)
                      have KK := Lib.hid KU
                      clear c34 cb c92 hesc d120 KU HT HU4 hd3 hsub
                      go_wp2_with fail
                      refine KK.out.mono ?_
                      rintro e w2 ⟨rfl, hb2⟩
                      have hown2 := hown.below hb2 (Nat.le_refl _)
                      have hbel2 := hbel.trans (hb2.mono hbel.size)
                      clear hown hbel hb2 KK
                      go_wp2_with (at_builtin; refine wpList_append_str rfl (.tmp 92) (.tmp 93) rfl w.heap.size _ out rfl hown2 ⟨u.toArray⟩ rfl (by have := HU.out; show out.length + u.length ≤ _; omega) hbel2.size ?_; intro o4 w4 hown4 hb4)
                      have Hb4 := Lib.hid (show Below w.heap.size w w4 from hbel2.trans hb4)
                      clear hb4 hbel2 hown2 hi1 hi2
                      go_wp2_with fail
                      go_roundw
                      case rel => exact ⟨k + 4, out ++ u, by go_num, by omega, by omega, by have := HU.out; simp; omega, HA.out, hown4, Hb4.out⟩
                      case measure => simp [intOf]; omega
                  · obtain ⟨e1, e2⟩ := HAT.out.none (by rw [HD2.out]; exact Ad.text_noesc c92 (by omega) d120)
                    rw [← HV.out] at e1
                    rw [← HN.out] at e2
                    have E1 := Lib.hid e1
                    have E2 := Lib.hid e2
                    have y3 : ((d.toNat : Int) != 120) = true := by rw [bne_iff_ne]; omega
                    clear e1 e2 c34 cb c92 hesc d120
                    go_wp2_with fail
                    go_ret2
                    rw [E1.out, E2.out]
                    exact ⟨rfl, hbel⟩
                · obtain ⟨e1, e2⟩ := HAT.out.none (by rw [HD2.out]; exact Ad.text_short c92 (by omega) (by rw [List.length_drop, HLen.out]; omega))
                  rw [← HV.out] at e1
                  rw [← HN.out] at e2
                  have E1 := Lib.hid e1
                  have E2 := Lib.hid e2
                  clear e1 e2 c34 cb c92 hesc
                  go_wp2_with fail
                  go_ret2
                  rw [E1.out, E2.out]
                  exact ⟨rfl, hbel⟩
            · have hd2 : L.drop (k + 1) = [] := List.drop_eq_nil_of_le (by rw [HLen.out]; omega)
              obtain ⟨e1, e2⟩ := HAT.out.none (by rw [HD.out, hd2]; exact Ad.text_one c92)
              rw [← HV.out] at e1
              rw [← HN.out] at e2
              have E1 := Lib.hid e1
              have E2 := Lib.hid e2
              clear e1 e2 c34 cb c92 hd2
              go_wp2_with fail
              go_ret2
              rw [E1.out, E2.out]
              exact ⟨rfl, hbel⟩
          · have q2 : ((c.toNat : Int) != 92) = true := by rw [bne_iff_ne]; omega
            have HA := Lib.hid (HAT.out.go (j := 1) (v := [c]) hk1 (by rw [HD.out]; exact Ad.text_plain c34 (by omega) c92))
            clear c34 cb c92
            go_wp2_with (at_builtin; refine wpList_append_bytes rfl (.tmp 35) (.tmp 37) rfl w.heap.size _ out rfl (hown.alloc _) ⟨wr.heap.size, 0, none⟩ 1 1 [c] rfl rfl (newsU8 wr 5 [c]) (by simp; omega) (by have := hbel.size; simp; omega) ?_; intro o4 w4 hown4 hb4)
            have Hb4 := Lib.hid (show Below w.heap.size w w4 from (hbel.alloc hbel.size _).trans hb4)
            clear hb4 hbel hown hi1
            go_wp2_with fail
            go_roundw
            case rel => exact ⟨k + 1, out ++ [c], by go_num, by omega, by omega, by simp; omega, HA.out, hown4, Hb4.out⟩
            case measure => simp [intOf]; omega
    · obtain rfl : k = s.size := by omega
      obtain ⟨e1, e2⟩ := HAT.out.none (by rw [List.drop_eq_nil_of_le (Nat.le_of_eq HLen.out)]; exact Ad.text_nil)
      rw [← HV.out] at e1
      rw [← HN.out] at e2
      have E1 := Lib.hid e1
      have E2 := Lib.hid e2
      clear e1 e2
      go_wp2_with fail
      go_ret2
      rw [E1.out, E2.out]
      exact ⟨rfl, hbel⟩
end Go.Proofs.YtmabpnmnppfgaaaGreatDoor
