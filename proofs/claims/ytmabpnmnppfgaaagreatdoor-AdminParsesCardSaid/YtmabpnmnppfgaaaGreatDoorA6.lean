/- Part A6 of the proof: the statement that is proved stands in the text that ends with its name. No conditions beyond the card's. -/
import Derived.Test.YtmabpnmnppfgaaaGreatDoorA5
namespace Go.Proofs.YtmabpnmnppfgaaaGreatDoor
set_option linter.unusedVariables false
open Go Go.RowKit Go.BigFrame
def nowhere : Nat → Prop := fun _ => False
def ScanJ (s : ByteArray) (L : Ad.Bs) (w : World) (l : Nat) (a : Act) (w' : World) : Prop :=
  ∃ (k : Nat) (ln bg : Int) (v : Value) (toks : List Ad.Tok), ScanF s k ln bg v a ∧ k ≤ s.size ∧ (0 ≤ ln ∧ ln ≤ k + 1) ∧ (0 ≤ bg ∧ bg ≤ k) ∧ toks.length ≤ k ∧ Ad.ScanAt L k toks ∧ OwnE tokE 71 w' w.heap.size nowhere v toks ∧ Below w.heap.size w w' ∧ (l = 0 ∨ (l = 1 ∧ ∃ c, L.drop k = c :: L.drop (k + 1) ∧ c.toNat = 35))
def ScanOut (s : ByteArray) (w : World) (e : Ending) (w' : World) : Prop :=
  ∃ x, (s.size ≤ 65536 → Ad.ScanX s.data.toList x) ∧ (65536 < s.size → x = .error 2) ∧ match x with
    | .error er => ∃ a b, e = .returned (.tuple #[.slice none 0 0, .int .i64 er, a, b])
    | .ok toks => ∃ g c, toks.length ≤ s.size ∧ e = .returned (.tuple #[.slice (some ⟨g, 0, none⟩) (toks.length + 1) c, .int .i64 0, .int .i64 0, .int .i64 0]) ∧ LAt tokE w' (New w w') (some ⟨g, 0, none⟩) (toks.length + 1) (toks ++ [⟨0, [], 0⟩]) ∧ toks.length + 1 ≤ c ∧ c ≤ maxLen
theorem infoWord : (Tryz.prog.info? 71).map (fun i => (i.zero, i.size, i.bytes)) = some (some (.agg zw), 11, 104) := by kernel_rfl
set_option maxRecDepth 100000 in
set_option maxHeartbeats 4000000 in
theorem scan_any (s : ByteArray) (w : World) (hs : s.size ≤ 100000) :
    Calls Tryz.prog 21 #[.string s] w fun e w' => ScanOut s w e w' ∧ Below w.heap.size w w' := by
  obtain ⟨L, hL⟩ : ∃ L, L = s.data.toList := ⟨_, rfl⟩
  have HLen := Lib.hid (show L.length = s.size by rw [hL]; simp)
  have HL := Lib.hid hL
  clear hL
  go_enter Tryz.func21, Tryz.ntmps21
  go_wp2
  by_cases hbig : 65536 < s.size
  · refine wp_scope_two (fun _ _ _ => False) (fun l a _ => 0) rfl rfl (fun _ _ _ h => h.elim) (fun _ _ h => h.elim) (fun _ _ h => h.elim) (fun _ => ?_)
    go_wp2_with fail
    rw [jumpsTo_ret]
    (try simp only [Exit.inBlock, Exit.then])
    refine bodyPost_ret (results_tmp4 rfl _ _ _) rfl ?_
    exact ⟨⟨.error 2, fun h => by omega, fun _ => rfl, _, _, rfl⟩, Below.refl _ _⟩
  · refine wp_scope_two (ScanJ s L w) (fun l a _ => 2 * (s.size - (intOf (a.tmps.getD 7 undef)).toNat) + (1 - l)) rfl rfl ?_ ?_ ?_ ?_
    · rintro l a w' ⟨k, ln, bg, v, toks, h1, h2, h3, h4, h5, h6, h7, h8, h | h⟩
      · exact Or.inl h
      · exact Or.inr h.1
    · rintro a w' ⟨k, ln, bg, v, toks, hf, hk, hln, hbg, htl, hat, hown, hbel, -⟩
      obtain ⟨u, rfl⟩ := hf.lit
      clear hf
      have HAT := Lib.hid hat
      clear hat
      by_cases hlt : k < s.size
      · have hd : L.drop k = s[k] :: L.drop (k + 1) := by
          rw [HL.out, List.drop_eq_getElem_cons (by simpa using hlt)]; rfl
        have HD := Lib.hid hd
        clear hd
        have hi1 : ∀ W : World, (Instr.index 9 (.string s) (.int .i64 (k : Int))).run Tryz.prog W = .ok (.int .u8 (s[k].toNat : Int)) W := fun W => idx_atu s k hlt rfl W
        have hc := s[k].toNat_lt
        generalize s[k] = c at *
        by_cases hbl : Ad.blank c
        · have HA := Lib.hid (HAT.out.skip HD.out hbl)
          have hbl2 : c.toNat = 10 ∨ (c.toNat ≠ 10 ∧ c.toNat = 32) ∨ (c.toNat ≠ 10 ∧ c.toNat ≠ 32 ∧ c.toNat = 9) ∨ (c.toNat ≠ 10 ∧ c.toNat ≠ 32 ∧ c.toNat ≠ 9 ∧ c.toNat = 13) := by unfold Ad.blank at hbl; omega
          clear hbl
          rcases hbl2 with h | ⟨h1, h⟩ | ⟨h1, h2, h⟩ | ⟨h1, h2, h3, h⟩
          · have q1 : ((c.toNat : Int) == 10) = true := by rw [h]; rfl
            clear h
            go_wp2_with fail
            go_step3
            exact ⟨⟨k + 1, ln + 1, (k : Int) + 1, v, toks, ⟨rfl, rfl, rfl, rfl, rfl, rfl, rfl, rfl, by go_num, by go_num, by go_num⟩, by omega, by omega, by omega, by omega, HA.out, hown, hbel, Or.inl rfl⟩, by simp [intOf]; omega⟩
          · have q1 : ((c.toNat : Int) == 10) = false := by rw [h]; rfl
            have q2 : ((c.toNat : Int) == 32) = true := by rw [h]; rfl
            clear h h1
            go_wp2_with fail
            go_step3
            exact ⟨⟨k + 1, ln, bg, v, toks, ⟨rfl, rfl, rfl, rfl, rfl, rfl, rfl, rfl, by go_num, by go_num, by go_num⟩, by omega, by omega, by omega, by omega, HA.out, hown, hbel, Or.inl rfl⟩, by simp [intOf]; omega⟩
          · have q1 : ((c.toNat : Int) == 10) = false := by rw [h]; rfl
            have q2 : ((c.toNat : Int) == 32) = false := by rw [h]; rfl
            have q3 : ((c.toNat : Int) == 9) = true := by rw [h]; rfl
            clear h h1 h2
            go_wp2_with fail
            go_step3
            exact ⟨⟨k + 1, ln, bg, v, toks, ⟨rfl, rfl, rfl, rfl, rfl, rfl, rfl, rfl, by go_num, by go_num, by go_num⟩, by omega, by omega, by omega, by omega, HA.out, hown, hbel, Or.inl rfl⟩, by simp [intOf]; omega⟩
          · have q1 : ((c.toNat : Int) == 10) = false := by rw [h]; rfl
            have q2 : ((c.toNat : Int) == 32) = false := by rw [h]; rfl
            have q3 : ((c.toNat : Int) == 9) = false := by rw [h]; rfl
            have q4 : ((c.toNat : Int) == 13) = true := by rw [h]; rfl
            clear h h1 h2 h3
            go_wp2_with fail
            go_step3
            exact ⟨⟨k + 1, ln, bg, v, toks, ⟨rfl, rfl, rfl, rfl, rfl, rfl, rfl, rfl, by go_num, by go_num, by go_num⟩, by omega, by omega, by omega, by omega, HA.out, hown, hbel, Or.inl rfl⟩, by simp [intOf]; omega⟩
        · have q1 : ((c.toNat : Int) == 10) = false := by rw [beq_eq_false_iff_ne]; unfold Ad.blank at hbl; omega
          have q2 : ((c.toNat : Int) == 32) = false := by rw [beq_eq_false_iff_ne]; unfold Ad.blank at hbl; omega
          have q3 : ((c.toNat : Int) == 9) = false := by rw [beq_eq_false_iff_ne]; unfold Ad.blank at hbl; omega
          have q4 : ((c.toNat : Int) == 13) = false := by rw [beq_eq_false_iff_ne]; unfold Ad.blank at hbl; omega
          by_cases h35 : c.toNat = 35
          · have q5 : ((c.toNat : Int) == 35) = true := by rw [h35]; rfl
            have HRM := Lib.hid (show ∃ c, L.drop k = c :: L.drop (k + 1) ∧ c.toNat = 35 from ⟨c, HD.out, h35⟩)
            clear hbl h35
            go_wp2_with fail
            go_step3
            exact ⟨⟨k, ln, bg, v, toks, ⟨rfl, rfl, rfl, rfl, rfl, rfl, rfl, rfl, by go_num, by go_num, by go_num⟩, by omega, by omega, by omega, by omega, HAT.out, hown, hbel, Or.inr ⟨rfl, HRM.out⟩⟩, by simp [intOf]⟩
          · have q5 : ((c.toNat : Int) == 35) = false := by rw [beq_eq_false_iff_ne]; omega
            have HW1 := Lib.hid (fun t n hw => HAT.out.word HD.out hbl h35 (t := t) (n := n) hw)
            have HW2 := Lib.hid (fun er hw => HAT.out.bad HD.out hbl h35 (er := er) hw)
            obtain ⟨x, hwr⟩ : ∃ x, Ad.wordX (L.drop k) = x := ⟨_, rfl⟩
            have hse : (s.extract k s.size).data.toList = L.drop k := by rw [HL.out]; simp [ByteArray.data_extract]; rw [List.take_of_length_le (by simp)]
            have KW0 : ∀ W : World, _ := fun W => word_any (s.extract k s.size) W (by rw [ByteArray.size_extract]; omega) (by rw [ByteArray.size_extract]; omega)
            unfold WordOut at KW0
            rw [hse, hwr] at KW0
            have KW := Lib.hid KW0
            have HWR := Lib.hid hwr
            clear hbl h35 hse KW0 hwr
            go_wp2_with fail
            refine (KW.out _).mono ?_
            rintro e w1 ⟨hx, hb1⟩
            have hown1 := hown.below hb1
            have hbel1 := hbel.trans (hb1.mono hbel.size)
            clear hown hbel hb1 KW hi1 q1 q2 q3 q4 q5
            cases x with
            | error er =>
              have hx : e = _ := hx
              subst hx
              have HX := Lib.hid (HW2.out er HWR.out)
              have her : er ≠ 0 := by rcases Ad.wordX_err HWR.out with h | h <;> omega
              have hb2 : Below w1.heap.size w1 (w1.alloc (.cells zw 71)) := (Below.refl _ w1).alloc (Nat.le_refl _) _
              have q6 : (er != 0) = true := by rw [bne_iff_ne]; exact her
              clear her
              go_wp2_with (refine wpList_store_blk (cs' := zw) rfl 71 (.tmp 10) (.tmp 52) rfl w1.heap.size rfl rfl (Blk.new w1 71 zw) rfl (by kernel_rfl) (by simp [Value.oneCell']) ?_; intro w2 hk2 hg2; have B2 := Lib.hid (below_grown hg2 (show w1.heap.size ≤ _ by simp) (Nat.le_refl _)); clear hk2 hg2)
              rw [jumpsTo_ret]
              (try simp only [Exit.inBlock, Exit.then])
              refine bodyPost_ret (results_tmp4 rfl _ _ _) rfl ?_
              exact ⟨⟨.error er, fun _ => HL.out ▸ HX.out, fun h => absurd h hbig, _, _, rfl⟩, hbel1.trans ((hb2.trans (B2.out.mono (Nat.le_refl _))).mono hbel1.size)⟩
            | ok y =>
              obtain ⟨t, n⟩ := y
              obtain ⟨cs, ⟨p, ⟨pt, pa, pb, pc, pd, pe, rfl⟩, rfl⟩, rfl⟩ := hx
              have HX := Lib.hid (HW1.out t n HWR.out)
              have hn := Ad.wordX_len HWR.out
              have hn2 : k + n ≤ s.size := by have := HLen.out; rw [List.length_drop] at hn; omega
              obtain ⟨hn1, -⟩ := hn
              clear HWR HW1 HW2 HAT
              obtain ⟨it, J1, J2, J3, J4⟩ := info_parts infoWord
              have NW := Lib.hid (fun (W : World) (l c : Int) (g : Nat) (hg : W.heap.size = g) => hg ▸ news_one (E := tokE) (w := W) (S := nowhere) (x := t) (cs := [.int .i64 t.kind, .string ⟨t.text.toArray⟩, .int .i64 t.num, .string pt, .int .i64 pa, .int .i64 pb, .int .i64 pc, .int .i64 pd, .int .i64 pe, .int .i64 l, .int .i64 c]) (T' := 71) ⟨_, l, c, ⟨pt, pa, pb, pc, pd, pe, rfl⟩, rfl⟩ (fun b hb => hb.elim))
              go_wp2_with (first | (refine wpList_store_blk (cs' := #[.int .i64 t.kind, .string ⟨t.text.toArray⟩, .int .i64 t.num, .string pt, .int .i64 pa, .int .i64 pb, .int .i64 pc, .int .i64 pd, .int .i64 pe, .int .i64 0, .int .i64 0]) rfl 71 (.tmp 10) (.tmp 52) rfl w1.heap.size rfl rfl (Blk.new w1 71 zw) rfl (by kernel_rfl) (by simp [Value.oneCell']) ?_; intro w2 hk2 hg2; have K2 := Lib.hid hk2; have B2 := Lib.hid (((Below.refl _ w1).alloc (Nat.le_refl _) (.cells zw 71)).trans ((below_grown hg2 (show w1.heap.size ≤ _ by simp) (Nat.le_refl _)))); have d2 := hk2.cell; have f2 := hk2.frozen; clear hk2 hg2) | (at_builtin; go_loud (refine wpList_append_E rfl (.tmp 70) (.tmp 72) _ rfl it (.agg zw) 104 Tryz.underlying61 J1 J2 J3 J4 rfl rfl (hown1.below (((B2.out.setCell (Nat.le_refl _) _).setCell (Nat.le_refl _) _).alloc (by have := B2.out.size; simp; omega) _)) ⟨_, 0, none⟩ 1 1 [t] rfl rfl (NW.out _ _ _ _ (by simp)) (by omega) (by omega) (by have := B2.out.size; have := hbel1.size; simp; omega) ?_; intro o4 w4 hown4 hb4 hg4 hw4)))
              have Hb4 := Lib.hid (hbel1.trans ((((B2.out.setCell (p := ⟨w1.heap.size, 9, none⟩) (Nat.le_refl _) (.int .i64 ln)).setCell (p := ⟨w1.heap.size, 10, none⟩) (Nat.le_refl _) (.int .i64 ((k : Int) - bg + 1))).alloc (by have := B2.out.size; simp; omega) _).mono hbel1.size) |>.trans hb4)
              clear hb4 hg4 hw4 d2 f2 NW K2 B2 hown1 hbel1 J1 J2 J3 J4
              go_wp2_with fail
              go_step3
              exact ⟨⟨k + n, ln, bg, o4, toks ++ [t], ⟨rfl, rfl, rfl, rfl, rfl, rfl, rfl, rfl, by go_num, by go_num, by go_num⟩, by omega, by omega, by omega, by simp; omega, HX.out, hown4, Hb4.out, Or.inl rfl⟩, by simp [intOf]; omega⟩
      · obtain rfl : k = s.size := by omega
        have HX := Lib.hid (HAT.out.done (by rw [HLen.out]; exact Nat.le_refl _))
        obtain ⟨it, J1, J2, J3, J4⟩ := info_parts infoWord
        have NW := Lib.hid (fun (W : World) (l c : Int) (g : Nat) (hg : W.heap.size = g) => hg ▸ news_one (E := tokE) (w := W) (S := nowhere) (x := ⟨0, [], 0⟩) (cs := [.int .i64 0, .string ⟨#[]⟩, .int .i64 0, .string ⟨#[]⟩, .int .i64 0, .int .i64 0, .int .i64 0, .int .i64 0, .int .i64 0, .int .i64 l, .int .i64 c]) (T' := 71) ⟨_, l, c, ⟨_, _, _, _, _, _, rfl⟩, rfl⟩ (fun b hb => hb.elim))
        clear HAT
        go_wp2_with (at_builtin; go_loud (refine wpList_append_E rfl (.tmp 20) (.tmp 27) _ rfl it (.agg zw) 104 Tryz.underlying61 J1 J2 J3 J4 rfl rfl (hown.alloc _) ⟨_, 0, none⟩ 1 1 [⟨0, [], 0⟩] rfl rfl (NW.out _ _ _ _ (by simp)) (by omega) (by omega) (by have := hbel.size; simp; omega) ?_; intro o4 w4 hown4 hb4 hg4 hw4))
        have Hb4 := Lib.hid ((hbel.alloc hbel.size _).trans hb4)
        clear hb4 hg4 hw4
        rw [jumpsTo_ret]
        (try simp only [Exit.inBlock, Exit.then])
        refine bodyPost_ret (results_tmp4 rfl _ _ _) rfl ?_
        obtain ⟨A, c, e1, hok, hl⟩ := Enc.list_inv (hown4.reads (S' := New w w4) (fun b hb => hb.elim) (fun g hg => hown4.own_lt hg) (by simp; omega))
        rcases hown4.form with ⟨_, h⟩ | ⟨g, cap, e2, -, -, hnc, hcm⟩
        · simp at h
        · rw [e2] at e1
          injection e1 with e3 _ e4
          subst e2 e3 e4
          rw [List.length_append, List.length_singleton] at hl hnc ⊢
          exact ⟨⟨.ok toks, fun _ => HL.out ▸ HX.out, fun h => by omega, g, cap, htl, rfl, hl, hnc, hcm⟩, Hb4.out⟩
    · rintro a w' ⟨k, ln, bg, v, toks, hf, hk, hln, hbg, htl, hat, hown, hbel, h⟩
      obtain h | ⟨-, c, hd, h35⟩ := h
      · cases h
      obtain ⟨u, rfl⟩ := hf.lit
      have HAT := Lib.hid (fun j hj => hat.remark hd h35 j hj)
      have hkl : k < s.size := by
        have := congrArg List.length hd
        rw [List.length_drop, HLen.out] at this
        simp at this
        omega
      have HK := Lib.hid (show s[k].toNat = 35 from by
        have h1 : L.drop k = s[k] :: L.drop (k + 1) := by
          rw [HL.out, List.drop_eq_getElem_cons (by simpa using hkl)]; rfl
        rw [hd] at h1
        injection h1 with h1 _
        rw [← h1]
        exact h35)
      clear hf hat hd h35 c
      go_wp2_with fail
      go_loopw [7] (fun x wr => ∃ j : Nat, x = .int .i64 j ∧ k ≤ j ∧ j ≤ s.size ∧ wr = w' ∧ RowKit.Hid (∀ i, k ≤ i → i < j → ∃ c, L[i]? = some c ∧ Ad.inLine c = true)) (fun x _ => s.size - (intOf x).toNat)
      case atStart => exact ⟨k, rfl, Nat.le_refl _, hk, rfl, Lib.hid (fun i h1 h2 => absurd h1 (by omega))⟩
      case round =>
        obtain ⟨j, rfl, hkj, hj, rfl, HIN⟩ := hrel
        by_cases hlt : j < s.size
        · have hi1 : ∀ W : World, (Instr.index 9 (.string s) (.int .i64 (j : Int))).run Tryz.prog W = .ok (.int .u8 (s[j].toNat : Int)) W := fun W => idx_atu s j hlt rfl W
          have hkk : k < s.size := hkl
          by_cases h10 : s[j].toNat = 10
          · have hne : k + 1 ≤ j := by
              rcases Nat.lt_or_ge k j with h | h
              · exact h
              · have : j = k := by omega
                subst this
                rw [HK.out] at h10
                cases h10
            have q1 : ((s[j].toNat : Int) != 10) = false := by rw [h10]; rfl
            have HA := Lib.hid (HAT.out j (by
              have := Ad.dropW Ad.inLine (L.drop (k + 1)) (j - (k + 1)) (fun i hi => by
                have := HIN.out (k + 1 + i) (by omega) (by omega)
                rwa [List.getElem?_drop]) (fun c hc => by
                rw [List.getElem?_drop, show k + 1 + (j - (k + 1)) = j by omega, HL.out, List.getElem?_eq_getElem (by simpa using hlt)] at hc
                cases hc
                unfold Ad.inLine
                exact decide_eq_false (fun h => h h10))
              rw [this, List.drop_drop, show k + 1 + (j - (k + 1)) = j by omega]))
            clear h10
            go_wp2_with fail
            go_step3
            exact ⟨⟨j, ln, bg, v, toks, ⟨rfl, rfl, rfl, rfl, rfl, rfl, rfl, rfl, rfl, rfl, rfl⟩, hj, by omega, by omega, by omega, HA.out, hown, hbel, Or.inl rfl⟩, by simp [intOf]; omega⟩
          · have q1 : ((s[j].toNat : Int) != 10) = true := by rw [bne_iff_ne]; omega
            have HIN2 := Lib.hid (show ∀ i, k ≤ i → i < j + 1 → ∃ c, L[i]? = some c ∧ Ad.inLine c = true from fun i h1 h2 => by
              rcases Nat.lt_or_ge i j with h | h
              · exact HIN.out i h1 h
              · obtain rfl : i = j := by omega
                refine ⟨s[i], ?_, by unfold Ad.inLine; exact decide_eq_true h10⟩
                rw [HL.out, List.getElem?_eq_getElem (by simpa using hlt)]
                rfl)
            clear h10 HIN
            go_wp2_with fail
            go_roundw
            case rel => exact ⟨j + 1, by go_num, by omega, by omega, by trivial, HIN2⟩
            case measure => simp [intOf]; omega
        · obtain rfl : j = s.size := by omega
          have HA := Lib.hid (HAT.out s.size (by
            have := Ad.dropW Ad.inLine (L.drop (k + 1)) (s.size - (k + 1)) (fun i hi => by
                have := HIN.out (k + 1 + i) (by omega) (by omega)
                rwa [List.getElem?_drop]) (fun c hc => by
                rw [List.getElem?_drop, List.getElem?_eq_none (by rw [HLen.out]; omega)] at hc
                cases hc)
            rw [this, List.drop_drop, show k + 1 + (s.size - (k + 1)) = s.size by omega]))
          go_wp2_with fail
          go_step3
          exact ⟨⟨s.size, ln, bg, v, toks, ⟨rfl, rfl, rfl, rfl, rfl, rfl, rfl, rfl, rfl, rfl, rfl⟩, Nat.le_refl _, by omega, by omega, by omega, HA.out, hown, hbel, Or.inl rfl⟩, by simp [intOf]; omega⟩
    · intro hgo
      have HG := Lib.hid hgo
      clear hgo
      go_wp2
      go_step3
      rename_i K hK
      refine hK _ _ (HG.out _ _ ?_)
      exact ⟨0, 1, 0, .slice none 0 0, [], ⟨rfl, rfl, rfl, rfl, rfl, rfl, rfl, rfl, rfl, rfl, rfl⟩, by omega, by omega, by omega, by simp, Ad.ScanAt.start L, OwnE.nil (fun b hb => hb.elim), Below.refl _ _, Or.inl rfl⟩
end Go.Proofs.YtmabpnmnppfgaaaGreatDoor
