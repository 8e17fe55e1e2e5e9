/- What PruneOther returns: true. -/
import Derived.Test.YtjbhlojfmcldjabLegEq
import Derived.Test.YtjbhlojfmcldjabPlainOther
import Derived.Test.YtjbhlojfmcldjabPr18
import Derived.Test.YtjbhlojfmcldjabPr15
namespace Go.Proofs.Ytjbhlojfmcldjab
set_option linter.unusedVariables false
open Go.RowKit Go.BigFrame
set_option maxRecDepth 100000 in
set_option maxHeartbeats 4000000 in
theorem pruneOther_any (cn cd cpre cfil ctr : ByteArray) (cf : Bool) (cpt crt : Int) (D : Option Addr) (n dc : Nat) (ds : List P.Dest) (id run tm st dn flt : Int) (raw : ByteArray) (A : Option Addr) (m cp : Nat) (ls : List P.Leg) (dest text : ByteArray) (now : Int) (B : Nat) (w : World)
    (hd : DestsAt w B D n ds) (ha : LegsAt w B A m ls) (hB : B ≤ w.heap.size) (hm : m ≤ maxLen) (hn : n ≤ maxLen) (hw : ∀ d ∈ ds, (Lit.int .i64 d.chain).wf = true) (hwb : ∀ d ∈ ds, (Lit.int .i64 d.backoff).wf = true) (hnow : (Lit.int .i64 now).wf = true) (ht : ∀ l ∈ ls, (Lit.int .i64 l.tries).wf = true) :
    Calls Try.prog 4 #[.agg #[.string cn, .bool cf, .int .i64 cpt, .string cd, .string cpre, .string cfil, .string ctr, .slice D n dc, .int .i64 crt], .agg #[.int .i64 id, .int .i64 run, .int .i64 tm, .int .i64 st, .int .i64 dn, .string raw, .int .i64 flt, .slice A m cp], .string dest, .string text, .int .i64 now] w fun e w' => e = .returned (.bool true) ∧ Below w.heap.size w w' := by
  have hbel := ((Below.refl w.heap.size w).alloc (Nat.le_refl _) (.cells #[.string cn, .bool cf, .int .i64 cpt, .string cd, .string cpre, .string cfil, .string ctr, .slice D n dc, .int .i64 crt] 24)).alloc (by simp) (.cells #[.int .i64 id, .int .i64 run, .int .i64 tm, .int .i64 st, .int .i64 dn, .string raw, .int .i64 flt, .slice A m cp] 33)
  have k0 := (Blk.new w 24 #[.string cn, .bool cf, .int .i64 cpt, .string cd, .string cpre, .string cfil, .string ctr, .slice D n dc, .int .i64 crt]).alloc (.cells #[.int .i64 id, .int .i64 run, .int .i64 tm, .int .i64 st, .int .i64 dn, .string raw, .int .i64 flt, .slice A m cp] 33)
  have k1 := Blk.new (w.alloc (.cells #[.string cn, .bool cf, .int .i64 cpt, .string cd, .string cpre, .string cfil, .string ctr, .slice D n dc, .int .i64 crt] 24)) 33 #[.int .i64 id, .int .i64 run, .int .i64 tm, .int .i64 st, .int .i64 dn, .string raw, .int .i64 flt, .slice A m cp]
  have hz : ((w.alloc (.cells #[.string cn, .bool cf, .int .i64 cpt, .string cd, .string cpre, .string cfil, .string ctr, .slice D n dc, .int .i64 crt] 24)).alloc (.cells #[.int .i64 id, .int .i64 run, .int .i64 tm, .int .i64 st, .int .i64 dn, .string raw, .int .i64 flt, .slice A m cp] 33)).heap.size = w.heap.size + 2 := by simp
  rw [show (w.alloc (.cells #[.string cn, .bool cf, .int .i64 cpt, .string cd, .string cpre, .string cfil, .string ctr, .slice D n dc, .int .i64 crt] 24)).heap.size = w.heap.size + 1 from by simp] at k1
  have KR := Lib.hid (right_any cn cd cpre cfil ctr cf cpt crt D n dc ds B _ (hd.below (hbel.mono hB)) (Nat.le_trans hB hbel.size) hn)
  have AL := Lib.hid (fun W => alive_any W)
  have HD := Lib.hid hd
  have HA := Lib.hid ha
  have K0 := Lib.hid k0
  have K1 := Lib.hid k1
  have BB := Lib.hid hbel
  have Z2 := Lib.hid hz
  have HT := Lib.hid ht
  have HWC := Lib.hid hw
  have HWB := Lib.hid hwb
  have HNW := Lib.hid hnow
  clear hd ha k0 k1 hbel hz ht hw hwb hnow
  have hm' := hm
  unfold maxLen at hm'
  go_enter Try.func4, Try.ntmps4
  go_wp2_with fail
  refine KR.out.mono ?_
  rintro x w3 ⟨⟨b, rfl, hr⟩, hb3⟩
  have c0 := fun i => (K0.out.below hb3 (by rw [Z2.out]; omega)).cell i
  have c1 := fun i => (K1.out.below hb3 (by rw [Z2.out]; omega)).cell i
  have HR := Lib.hid hr
  have K0' := Lib.hid (K0.out.below hb3 (by rw [Z2.out]; omega))
  have K1' := Lib.hid (K1.out.below hb3 (by rw [Z2.out]; omega))
  have B3 := Lib.hid (BB.out.trans (hb3.mono BB.out.size))
  clear hr hb3
  cases b
  · go_wp2_with fail
    refine (AL.out _).mono ?_
    rintro x w4 ⟨rfl, hb4⟩
    have B4 := Lib.hid (B3.out.trans (hb4.mono B3.out.size))
    clear hb4
    go_wp2
    go_ret
    exact ⟨rfl, B4.out⟩
  · have RD := Lib.hid (HR.out rfl)
    by_cases hmn : m = n
    · subst hmn
      have t2 : ((m : Int) != (m : Int)) = false := by simp
      by_cases htx : text.size ≤ 3000
      · have t3 : decide ((3000 : Int) < (text.size : Int)) = false := by simp; omega
        have LEG := Lib.hid ((HA.out.below (B3.out.mono hB)).more (Nat.le_trans hB B3.out.size))
        have DST := Lib.hid ((HD.out.below (B3.out.mono hB)).more (Nat.le_trans hB B3.out.size))
        have m8 : m ≤ 8 := by have := RD.out.few; rw [DST.out.len] at this; exact this
        go_wp2_with fail
        clear c0 c1 t2 t3
        go_loopw [11, 12] (fun c x wr => ∃ k : Nat, k ≤ m ∧ x = .int .i64 k ∧ c = .int .i64 (P.chainTo ds dest k) ∧ (∀ (i : Nat) (d : P.Dest) (l : P.Leg), i < k → ds[i]? = some d → ls[i]? = some l → l.name.data.toList = d.name.data.toList) ∧ Below w3.heap.size w3 wr) (fun _ x _ => m - (intOf x).toNat)
        case atStart => exact ⟨0, by omega, rfl, rfl, fun i d l hi => by omega, Below.refl _ _⟩
        case round =>
          obtain ⟨k, hk, rfl, rfl, hsm, hb4⟩ := hrel
          have SM := Lib.hid hsm
          have H4 := Lib.hid hb4
          have c0 := fun i => (K0'.out.stays hb4).cell i
          have c1 := fun i => (K1'.out.stays hb4).cell i
          clear hsm hb4
          by_cases hlt : k < m
          · have t1 : decide ((k : Int) < (m : Int)) = true := by simp; omega
            obtain ⟨ad, l, rfl, hlb, hlk, l0, l1, l2, l3, l4, l5⟩ := (LEG.out.below H4.out).in_ hlt
            obtain ⟨ad2, d, rfl, hdb, hdk, d0, d1, d2, d3, d4, d5, d6, d7, d8⟩ := (DST.out.below H4.out).in_ hlt
            have HLK := Lib.hid hlk
            have HDK := Lib.hid hdk
            clear hlk hdk
            cases t3 : (d.name.toList == l.name.toList)
            · have t4 := ne_of t3
              go_wp2_with fail
              go_quiet (fail)
              go_wp2_with fail
              refine (AL.out _).mono ?_
              rintro x w5 ⟨rfl, hb5⟩
              have B5 := Lib.hid (B3.out.trans (((below_drewN H4.out _).trans (hb5.mono (below_drewN H4.out _).size)).mono B3.out.size))
              clear hb5
              go_wp2
              go_ret
              exact ⟨rfl, B5.out⟩
            · have t4 := ne_of t3
              have SM2 := Lib.hid (show ∀ (i : Nat) (d : P.Dest) (l : P.Leg), i < k + 1 → ds[i]? = some d → ls[i]? = some l → l.name.data.toList = d.name.data.toList from fun i d' l' hi hd' hl' => by
                rcases Nat.lt_or_ge i k with h1 | h1
                · exact SM.out i d' l' h1 hd' hl'
                · have : i = k := by omega
                  subst this
                  rw [HDK.out] at hd'
                  rw [HLK.out] at hl'
                  cases hd'
                  cases hl'
                  have t5 : d.name.data.toList = l.name.data.toList := by simpa [ByteArray.toList_eq] using t3
                  exact t5.symm)
              have CS := Lib.hid (P.chainTo_step (dest := dest) HDK.out)
              cases t6 : (d.name.toList == dest.toList)
              · have CE := Lib.hid (show P.chainTo ds dest (k + 1) = P.chainTo ds dest k from by rw [CS.out, t6]; rfl)
                clear CS
                go_wp2_with fail
                go_quiet (fail)
                go_wp2
                go_roundw
                case rel => exact ⟨k + 1, by omega, by go_num, by rw [CE.out], SM2.out, below_drewN H4.out _⟩
                case measure => simp [intOf]; omega
              · have CE := Lib.hid (show P.chainTo ds dest (k + 1) = d.chain from by rw [CS.out, t6]; rfl)
                clear CS
                go_wp2_with fail
                go_quiet (fail)
                go_wp2
                go_roundw
                case rel => exact ⟨k + 1, by omega, by go_num, by rw [CE.out], SM2.out, below_drewN H4.out _⟩
                case measure => simp [intOf]; omega
          · have t1 : decide ((k : Int) < (m : Int)) = false := by simp; omega
            have ek : k = m := by omega
            have LN := Lib.hid (show P.Lined ds ls from ⟨by rw [LEG.out.len, DST.out.len], fun i d l hd hl => SM.out i d l (by
              rw [ek, ← DST.out.len]
              exact (List.getElem?_eq_some_iff.1 hd).1) hd hl, fun i j d e hij hd he h => by
              have := (RD.out.to_ j e (List.getElem?_eq_some_iff.1 he).1 he).2.2 i d hij hd
              rw [beq_eq_false_iff_ne] at this
              exact this h⟩)
            have LEG4 := Lib.hid ((LEG.out.below H4.out).more H4.out.size)
            have DST4 := Lib.hid ((DST.out.below H4.out).more H4.out.size)
            have K04 := Lib.hid (K0'.out.stays H4.out)
            have K14 := Lib.hid (K1'.out.stays H4.out)
            have B4 := Lib.hid (B3.out.trans (H4.out.mono B3.out.size))
            have hkd : k = ds.length := by rw [ek, DST.out.len]
            obtain ⟨lsA, hlA⟩ : ∃ x, x = P.turned P.sentLeg st ds ls dest text := ⟨_, rfl⟩
            obtain ⟨lsB, hlB⟩ : ∃ x, x = P.movedTo (P.triedTurn now ds) st ds ls dest text := ⟨_, rfl⟩
            obtain ⟨lsF, hlF⟩ : ∃ x, x = P.movedTo (P.failTurn ds) st ds ls dest text := ⟨_, rfl⟩
            obtain ⟨dA, hdA⟩ : ∃ x, x = P.doneOf st ds ls lsA dest dn now := ⟨_, rfl⟩
            obtain ⟨dB, hdB⟩ : ∃ x, x = P.doneOf st ds ls lsB dest dn now := ⟨_, rfl⟩
            obtain ⟨dF, hdF⟩ : ∃ x, x = P.doneOf st ds ls lsF dest dn now := ⟨_, rfl⟩
            have BA := P.moved_but (dest := dest) (reply := text) (state := st) LN.out (P.keeps_sent ds)
            have BT := P.moved_but (dest := dest) (reply := text) (state := st) LN.out (P.keeps_tried now ds)
            have BF := P.moved_but (dest := dest) (reply := text) (state := st) LN.out (P.keeps_fail ds)
            rw [← P.turned_moved, ← hlA, ← hkd] at BA
            rw [← hlB, ← hkd] at BT
            rw [← hlF, ← hkd] at BF
            have CA := Lib.hid (fun W (hW : Stays wr W) => sent_any cn cd cpre cfil ctr cf cpt crt D m dc ds id run tm st dn flt raw A m cp ls dest text now W.heap.size W ((LEG4.out.below hW).more hW.size) ((DST4.out.below hW).more hW.size) (Nat.le_refl _) (by omega) (by omega) HWC.out HT.out (by unfold maxLen; omega))
            have CB := Lib.hid (fun W (hW : Stays wr W) => tried_any cn cd cpre cfil ctr cf cpt crt D m dc ds id run tm st dn flt raw A m cp ls dest text now W.heap.size W ((LEG4.out.below hW).more hW.size) ((DST4.out.below hW).more hW.size) (Nat.le_refl _) (by omega) (by omega) HWC.out HWB.out HNW.out HT.out (by unfold maxLen; omega))
            have CF := Lib.hid (fun W (hW : Stays wr W) => failed_any cn cd cpre cfil ctr cf cpt crt D m dc ds id run tm st dn flt raw A m cp ls dest text now W.heap.size W ((LEG4.out.below hW).more hW.size) ((DST4.out.below hW).more hW.size) (Nat.le_refl _) (by omega) (by omega) HWC.out HT.out (by unfold maxLen; omega))
            rw [← hlA, ← hdA] at CA
            rw [← hlB, ← hdB] at CB
            rw [← hlF, ← hdF] at CF
            have hmA : lsA.length = m := by rw [BA.lined.len, DST.out.len]
            have hmB : lsB.length = m := by rw [BT.lined.len, DST.out.len]
            have hmF : lsF.length = m := by rw [BF.lined.len, DST.out.len]
            have BA := Lib.hid BA
            have BT := Lib.hid BT
            have BF := Lib.hid BF
            have HMA := Lib.hid hmA
            have HMB := Lib.hid hmB
            have HMF := Lib.hid hmF
            obtain ⟨ch, hch⟩ : ∃ x, x = P.chainTo ds dest k := ⟨_, rfl⟩
            rw [← hch] at BA BT BF
            rw [← hch]
            clear hlA hlB hlF hdA hdB hdF ek hkd hmA hmB hmF hch c0 c1
            have c0 := fun i => K04.out.cell i
            have c1 := fun i => K14.out.cell i
            go_wp2_with fail
            clear c0 c1
            refine wp_region_free2 21 [] [18, 19, 20] Stays (fun | 5 => some (RowIs id run tm st dA flt raw lsA wr.heap.size) | 11 => some (RowIs id run tm st dB flt raw lsB wr.heap.size) | 17 => some (RowIs id run tm st dF flt raw lsF wr.heap.size) | 18 => some (NewRow wr.heap.size) | 19 => some (NewRow wr.heap.size) | 20 => some (NewRow wr.heap.size) | _ => none) (by kernel_rfl) (by kernel_rfl) Stays.refl (by simp) (Stays.draw _) Stays.trans ?_ ?_ ?_ ?_
            · intro j φ v x y hB hp hxy
              split at hB <;> cases hB <;> exact hp.stays hxy
            · intro j φ v x hF hB hp
              split at hB <;> cases hB
              · cases hF
              · cases hF
              · cases hF
              · exact hp.old
              · exact hp.old
              · exact hp.old
            · intro j hF
              have : j = 18 ∨ j = 19 ∨ j = 20 := by simpa using hF
              rcases this with rfl | rfl | rfl <;> rfl
            · apply wpFree2_pure rfl rfl
              · intro vs wx hk K hK
                have c0 := fun i => (K04.out.stays hk.1).cell i
                go_simp
                exact hK _ (Stays.refl _)
              intro KK hKK
              go_simp
              refine hKK _ ?_
              clear hKK KK
              apply wpFree2_pure rfl rfl
              · intro vs wx hk K hK
                have c1 := fun i => (K14.out.stays hk.1).cell i
                go_simp
                exact hK _ (Stays.refl _)
              intro KK hKK
              go_simp
              refine hKK _ ?_
              clear hKK KK
              apply wpFree2_pure rfl rfl
              · intro vs wx hk K hK
                go_simp
                exact hK _ (Stays.refl _)
              intro KK hKK
              go_simp
              refine hKK _ ?_
              clear hKK KK
              apply wpFree2_pure rfl rfl
              · intro vs wx hk K hK
                go_simp
                exact hK _ (Stays.refl _)
              intro KK hKK
              go_simp
              refine hKK _ ?_
              clear hKK KK
              apply wpFree2_pure rfl rfl
              · intro vs wx hk K hK
                go_simp
                exact hK _ (Stays.refl _)
              intro KK hKK
              go_simp
              refine hKK _ ?_
              clear hKK KK
              refine wpFree2_fact rfl ?_ ?_
              · intro vs wx hk K hK
                go_simp
                refine (CA.out wx hk.1).mono ?_
                rintro x wy ⟨v, rfl, hown, hby⟩
                exact ⟨_, rfl, hK _ _ hby ⟨v, rfl, hown.less hk.1.size⟩ (fun h => absurd h (by decide))⟩
              intro KK hKK
              go_simp
              refine hKK _ ?_
              clear hKK KK
              apply wpFree2_pure rfl rfl
              · intro vs wx hk K hK
                have c0 := fun i => (K04.out.stays hk.1).cell i
                go_simp
                exact hK _ (Stays.refl _)
              intro KK hKK
              go_simp
              refine hKK _ ?_
              clear hKK KK
              apply wpFree2_pure rfl rfl
              · intro vs wx hk K hK
                have c1 := fun i => (K14.out.stays hk.1).cell i
                go_simp
                exact hK _ (Stays.refl _)
              intro KK hKK
              go_simp
              refine hKK _ ?_
              clear hKK KK
              apply wpFree2_pure rfl rfl
              · intro vs wx hk K hK
                go_simp
                exact hK _ (Stays.refl _)
              intro KK hKK
              go_simp
              refine hKK _ ?_
              clear hKK KK
              apply wpFree2_pure rfl rfl
              · intro vs wx hk K hK
                go_simp
                exact hK _ (Stays.refl _)
              intro KK hKK
              go_simp
              refine hKK _ ?_
              clear hKK KK
              apply wpFree2_pure rfl rfl
              · intro vs wx hk K hK
                go_simp
                exact hK _ (Stays.refl _)
              intro KK hKK
              go_simp
              refine hKK _ ?_
              clear hKK KK
              refine wpFree2_fact rfl ?_ ?_
              · intro vs wx hk K hK
                go_simp
                refine (CB.out wx hk.1).mono ?_
                rintro x wy ⟨v, rfl, hown, hby⟩
                exact ⟨_, rfl, hK _ _ hby ⟨v, rfl, hown.less hk.1.size⟩ (fun h => absurd h (by decide))⟩
              intro KK hKK
              go_simp
              refine hKK _ ?_
              clear hKK KK
              apply wpFree2_pure rfl rfl
              · intro vs wx hk K hK
                have c0 := fun i => (K04.out.stays hk.1).cell i
                go_simp
                exact hK _ (Stays.refl _)
              intro KK hKK
              go_simp
              refine hKK _ ?_
              clear hKK KK
              apply wpFree2_pure rfl rfl
              · intro vs wx hk K hK
                have c1 := fun i => (K14.out.stays hk.1).cell i
                go_simp
                exact hK _ (Stays.refl _)
              intro KK hKK
              go_simp
              refine hKK _ ?_
              clear hKK KK
              apply wpFree2_pure rfl rfl
              · intro vs wx hk K hK
                go_simp
                exact hK _ (Stays.refl _)
              intro KK hKK
              go_simp
              refine hKK _ ?_
              clear hKK KK
              apply wpFree2_pure rfl rfl
              · intro vs wx hk K hK
                go_simp
                exact hK _ (Stays.refl _)
              intro KK hKK
              go_simp
              refine hKK _ ?_
              clear hKK KK
              apply wpFree2_pure rfl rfl
              · intro vs wx hk K hK
                go_simp
                exact hK _ (Stays.refl _)
              intro KK hKK
              go_simp
              refine hKK _ ?_
              clear hKK KK
              refine wpFree2_fact rfl ?_ ?_
              · intro vs wx hk K hK
                go_simp
                refine (CF.out wx hk.1).mono ?_
                rintro x wy ⟨v, rfl, hown, hby⟩
                exact ⟨_, rfl, hK _ _ hby ⟨v, rfl, hown.less hk.1.size⟩ (fun h => absurd h (by decide))⟩
              intro KK hKK
              go_simp
              refine hKK _ ?_
              clear hKK KK
              refine wpFree2_fact rfl ?_ ?_
              · intro vs wx hk K hK
                go_simp
                exact hK _ _ (Stays.alloc _ _) ⟨_, rfl, hk.1.size, Blk.new _ _ _⟩ (fun _ => ⟨_, rfl, Nat.le_refl _⟩)
              intro KK hKK
              go_simp
              refine hKK _ ?_
              clear hKK KK
              refine wpFree2_fact rfl ?_ ?_
              · intro vs wx hk K hK
                go_simp
                exact hK _ _ (Stays.alloc _ _) ⟨_, rfl, hk.1.size, Blk.new _ _ _⟩ (fun _ => ⟨_, rfl, Nat.le_refl _⟩)
              intro KK hKK
              go_simp
              refine hKK _ ?_
              clear hKK KK
              refine wpFree2_fact rfl ?_ ?_
              · intro vs wx hk K hK
                go_simp
                exact hK _ _ (Stays.alloc _ _) ⟨_, rfl, hk.1.size, Blk.new _ _ _⟩ (fun _ => ⟨_, rfl, Nat.le_refl _⟩)
              intro KK hKK
              go_simp
              refine hKK _ ?_
              clear hKK KK
              refine wpFree2_nil ?_
              intro vs w6 hs6 hf6 hap
              obtain ⟨vA, hvA, oA⟩ := hf6 5 _ (by omega) rfl
              obtain ⟨vB, hvB, oB⟩ := hf6 11 _ (by omega) rfl
              obtain ⟨vF, hvF, oF⟩ := hf6 17 _ (by omega) rfl
              obtain ⟨gA, hgA, leA, kA⟩ := hf6 18 _ (by omega) rfl
              obtain ⟨gB, hgB, leB, kB⟩ := hf6 19 _ (by omega) rfl
              obtain ⟨gF, hgF, leF, kF⟩ := hf6 20 _ (by omega) rfl
              have nAB : gA ≠ gB := fun e => hap 18 19 (by decide) (by decide) (by omega) (by omega) (by omega) (by rw [hgA, hgB, e])
              have nAF : gA ≠ gF := fun e => hap 18 20 (by decide) (by decide) (by omega) (by omega) (by omega) (by rw [hgA, hgF, e])
              have nBF : gB ≠ gF := fun e => hap 19 20 (by decide) (by decide) (by omega) (by omega) (by omega) (by rw [hgB, hgF, e])
              have S6 := Lib.hid hs6
              intro KK hKK
              rw [hvA, hvB, hvF, hgA, hgB, hgF]
              clear hf6 hs6 hap hvA hvB hvF hgA hgB hgF
              simp only [List.drop_succ_cons, List.drop_zero]
              obtain ⟨AA, cA, rfl, -⟩ := oA.reads
              obtain ⟨AB, cB, rfl, -⟩ := oB.reads
              obtain ⟨AF, cF, rfl, -⟩ := oF.reads
              rw [HMA.out] at oA ⊢
              rw [HMB.out] at oB ⊢
              rw [HMF.out] at oF ⊢
              have B6 : Below wr.heap.size wr w6 := S6.out
              clear S6
              refine wpList_store_mid rfl 33 (.tmp 13) (.tmp 75) rfl gA 0 #[.int .i64 id, .int .i64 run, .int .i64 tm, .int .i64 st, .int .i64 dA, .string raw, .int .i64 flt, .slice AA m cA] rfl rfl (kA.there 8 (by simp)) (by kernel_rfl) (by simp [Value.oneCell']) ?_
              have oA := oA.farCells (oA.ne_blk kA) [.int .i64 id, .int .i64 run, .int .i64 tm, .int .i64 st, .int .i64 dA, .string raw, .int .i64 flt, .slice AA m cA] 0
              have oB := oB.farCells (oB.ne_blk kA) [.int .i64 id, .int .i64 run, .int .i64 tm, .int .i64 st, .int .i64 dA, .string raw, .int .i64 flt, .slice AA m cA] 0
              have oF := oF.farCells (oF.ne_blk kA) [.int .i64 id, .int .i64 run, .int .i64 tm, .int .i64 st, .int .i64 dA, .string raw, .int .i64 flt, .slice AA m cA] 0
              have kB := kB.farCells (Ne.symm nAB) [.int .i64 id, .int .i64 run, .int .i64 tm, .int .i64 st, .int .i64 dA, .string raw, .int .i64 flt, .slice AA m cA] 0
              have kF := kF.farCells (Ne.symm nAF) [.int .i64 id, .int .i64 run, .int .i64 tm, .int .i64 st, .int .i64 dA, .string raw, .int .i64 flt, .slice AA m cA] 0
              have kA := kA.set8 (a := .int .i64 id) (b := .int .i64 run) (c := .int .i64 tm) (d := .int .i64 st) (e := .int .i64 dA) (f := .string raw) (g := .int .i64 flt) (h := .slice AA m cA)
              have B6 := below_setCells B6 leA [.int .i64 id, .int .i64 run, .int .i64 tm, .int .i64 st, .int .i64 dA, .string raw, .int .i64 flt, .slice AA m cA] 0
              simp only []
              generalize w6.setCells gA 0 [.int .i64 id, .int .i64 run, .int .i64 tm, .int .i64 st, .int .i64 dA, .string raw, .int .i64 flt, .slice AA m cA] = w7 at *
              refine wpList_store_mid rfl 33 (.tmp 14) (.tmp 81) rfl gB 0 #[.int .i64 id, .int .i64 run, .int .i64 tm, .int .i64 st, .int .i64 dB, .string raw, .int .i64 flt, .slice AB m cB] rfl rfl (kB.there 8 (by simp)) (by kernel_rfl) (by simp [Value.oneCell']) ?_
              have oA := oA.farCells (oA.ne_blk kB) [.int .i64 id, .int .i64 run, .int .i64 tm, .int .i64 st, .int .i64 dB, .string raw, .int .i64 flt, .slice AB m cB] 0
              have oB := oB.farCells (oB.ne_blk kB) [.int .i64 id, .int .i64 run, .int .i64 tm, .int .i64 st, .int .i64 dB, .string raw, .int .i64 flt, .slice AB m cB] 0
              have oF := oF.farCells (oF.ne_blk kB) [.int .i64 id, .int .i64 run, .int .i64 tm, .int .i64 st, .int .i64 dB, .string raw, .int .i64 flt, .slice AB m cB] 0
              have kA := kA.farCells nAB [.int .i64 id, .int .i64 run, .int .i64 tm, .int .i64 st, .int .i64 dB, .string raw, .int .i64 flt, .slice AB m cB] 0
              have kF := kF.farCells (Ne.symm nBF) [.int .i64 id, .int .i64 run, .int .i64 tm, .int .i64 st, .int .i64 dB, .string raw, .int .i64 flt, .slice AB m cB] 0
              have kB := kB.set8 (a := .int .i64 id) (b := .int .i64 run) (c := .int .i64 tm) (d := .int .i64 st) (e := .int .i64 dB) (f := .string raw) (g := .int .i64 flt) (h := .slice AB m cB)
              have B6 := below_setCells B6 leB [.int .i64 id, .int .i64 run, .int .i64 tm, .int .i64 st, .int .i64 dB, .string raw, .int .i64 flt, .slice AB m cB] 0
              simp only []
              generalize w7.setCells gB 0 [.int .i64 id, .int .i64 run, .int .i64 tm, .int .i64 st, .int .i64 dB, .string raw, .int .i64 flt, .slice AB m cB] = w8 at *
              refine wpList_store_mid rfl 33 (.tmp 15) (.tmp 87) rfl gF 0 #[.int .i64 id, .int .i64 run, .int .i64 tm, .int .i64 st, .int .i64 dF, .string raw, .int .i64 flt, .slice AF m cF] rfl rfl (kF.there 8 (by simp)) (by kernel_rfl) (by simp [Value.oneCell']) ?_
              have oA := oA.farCells (oA.ne_blk kF) [.int .i64 id, .int .i64 run, .int .i64 tm, .int .i64 st, .int .i64 dF, .string raw, .int .i64 flt, .slice AF m cF] 0
              have oB := oB.farCells (oB.ne_blk kF) [.int .i64 id, .int .i64 run, .int .i64 tm, .int .i64 st, .int .i64 dF, .string raw, .int .i64 flt, .slice AF m cF] 0
              have oF := oF.farCells (oF.ne_blk kF) [.int .i64 id, .int .i64 run, .int .i64 tm, .int .i64 st, .int .i64 dF, .string raw, .int .i64 flt, .slice AF m cF] 0
              have kA := kA.farCells nAF [.int .i64 id, .int .i64 run, .int .i64 tm, .int .i64 st, .int .i64 dF, .string raw, .int .i64 flt, .slice AF m cF] 0
              have kB := kB.farCells nBF [.int .i64 id, .int .i64 run, .int .i64 tm, .int .i64 st, .int .i64 dF, .string raw, .int .i64 flt, .slice AF m cF] 0
              have kF := kF.set8 (a := .int .i64 id) (b := .int .i64 run) (c := .int .i64 tm) (d := .int .i64 st) (e := .int .i64 dF) (f := .string raw) (g := .int .i64 flt) (h := .slice AF m cF)
              have B6 := below_setCells B6 leF [.int .i64 id, .int .i64 run, .int .i64 tm, .int .i64 st, .int .i64 dF, .string raw, .int .i64 flt, .slice AF m cF] 0
              simp only []
              generalize w8.setCells gF 0 [.int .i64 id, .int .i64 run, .int .i64 tm, .int .i64 st, .int .i64 dF, .string raw, .int .i64 flt, .slice AF m cF] = w9 at *
              have LA := Lib.hid oA.legs
              have LB := Lib.hid oB.legs
              have LF := Lib.hid oF.legs
              have KA := Lib.hid kA
              have KB := Lib.hid kB
              have KF := Lib.hid kF
              have LEG9 := Lib.hid ((LEG4.out.below B6).more B6.size)
              have DST9 := Lib.hid ((DST4.out.below B6).more B6.size)
              have K09 := Lib.hid (K04.out.stays B6)
              have K19 := Lib.hid (K14.out.stays B6)
              have B9 := Lib.hid (B4.out.trans (B6.mono B4.out.size))
              clear oA oB oF kA kB kF B6 nAB nAF nBF leA leB leF
              have c0 := fun i => K09.out.cell i
              have c1 := fun i => K19.out.cell i
              have cA' := fun i => KA.out.cell i
              have cB' := fun i => KB.out.cell i
              have cF' := fun i => KF.out.cell i
              go_wp2_with fail
              clear c0 c1 cA' cB' cF'
              go_loopw [16] (fun x wq => ∃ k : Nat, k ≤ m ∧ x = .int .i64 k ∧ Below w9.heap.size w9 wq) (fun x _ => m - (intOf x).toNat)
              case atStart => exact ⟨0, by omega, rfl, Below.refl _ _⟩
              case round =>
                obtain ⟨q, hq, rfl, hbq⟩ := hrel
                have HQ := Lib.hid hbq
                have c0 := fun i => (K09.out.stays hbq).cell i
                have c1 := fun i => (K19.out.stays hbq).cell i
                have cA' := fun i => (KA.out.stays hbq).cell i
                have cB' := fun i => (KB.out.stays hbq).cell i
                have cF' := fun i => (KF.out.stays hbq).cell i
                clear hbq
                by_cases hlq : q < m
                · have t5 : decide ((q : Int) < (m : Int)) = true := by simp; omega
                  obtain ⟨ad, d, rfl, hdb, hdk, d0, d1, d2, d3, d4, d5, d6, d7, d8⟩ := (DST9.out.below HQ.out).in_ hlq
                  cases t6 : (d.chain == ch)
                  · have t7 := ne_of t6
                    have hne : d.chain ≠ ch := by simpa using t6
                    obtain ⟨a1, l, rfl, hlb, hlk, l0, l1, l2, l3, l4, l5⟩ := (LEG9.out.below HQ.out).in_ hlq
                    obtain ⟨a2, lA, rfl, hlbA, hlkA, lA0, lA1, lA2, lA3, lA4, lA5⟩ := (LA.out.below HQ.out).in_ hlq
                    obtain ⟨a3, lB, rfl, hlbB, hlkB, lB0, lB1, lB2, lB3, lB4, lB5⟩ := (LB.out.below HQ.out).in_ hlq
                    obtain ⟨a4, lF, rfl, hlbF, hlkF, lF0, lF1, lF2, lF3, lF4, lF5⟩ := (LF.out.below HQ.out).in_ hlq
                    have e1 := BA.out.same q d hdk hne
                    have e2 := BT.out.same q d hdk hne
                    have e3 := BF.out.same q d hdk hne
                    rw [hlk, hlkA] at e1
                    rw [hlk, hlkB] at e2
                    rw [hlk, hlkF] at e3
                    obtain rfl : lA = l := Option.some.inj e1
                    obtain rfl : lB = lA := Option.some.inj e2
                    obtain rfl : lF = lB := Option.some.inj e3
                    have nq := fun W => neq_leg lF W
                    clear e1 e2 e3 hlk hlkA hlkB hlkF hdk hne hlb hlbA hlbB hlbF hdb
                    go_wp2_with fail
                    go_quiet (fail)
                    go_wp2
                    go_roundw
                    case rel => exact ⟨q + 1, by omega, by go_num, below_drewN HQ.out _⟩
                    case measure => simp [intOf]; omega
                  · have t7 := ne_of t6
                    clear hdk hdb
                    go_wp2_with fail
                    go_quiet (fail)
                    go_wp2
                    go_roundw
                    case rel => exact ⟨q + 1, by omega, by go_num, below_drewN HQ.out _⟩
                    case measure => simp [intOf]; omega
                · have t5 : decide ((q : Int) < (m : Int)) = false := by simp; omega
                  have BQ := Lib.hid (B9.out.trans (HQ.out.mono B9.out.size))
                  go_wp2_with fail
                  refine (AL.out _).mono ?_
                  rintro x w10 ⟨rfl, hb10⟩
                  have hs10 := HQ.out.trans (hb10.mono HQ.out.size)
                  have B10 := Lib.hid (B9.out.trans (hs10.mono B9.out.size))
                  have c1 := fun i => (K19.out.stays hs10).cell i
                  have cA' := fun i => (KA.out.stays hs10).cell i
                  have hra : (raw.toList == raw.toList) = true := by simp
                  clear hb10 hs10 c0 cB' cF'
                  go_wp2
                  go_ret
                  exact ⟨rfl, B10.out⟩
      · have t3 : decide ((3000 : Int) < (text.size : Int)) = true := by simp; omega
        go_wp2_with fail
        refine (AL.out _).mono ?_
        rintro x w4 ⟨rfl, hb4⟩
        have B4 := Lib.hid (B3.out.trans (hb4.mono B3.out.size))
        clear hb4
        go_wp2
        go_ret
        exact ⟨rfl, B4.out⟩
    · have t2 : ((m : Int) != (n : Int)) = true := by rw [bne_iff_ne]; omega
      clear hmn
      go_wp2_with fail
      refine (AL.out _).mono ?_
      rintro x w4 ⟨rfl, hb4⟩
      have B4 := Lib.hid (B3.out.trans (hb4.mono B3.out.size))
      clear hb4
      go_wp2
      go_ret
      exact ⟨rfl, B4.out⟩
end Go.Proofs.Ytjbhlojfmcldjab
