/- What PruneLegs returns: true. -/
import Derived.Test.YtemjipongehjlaaGreatL24
import Derived.Test.YtemjipongehjlaaGreatL26
namespace Go.Proofs.YtemjipongehjlaaGreat
set_option linter.unusedVariables false
open Go.RowKit Go.BigFrame
set_option maxRecDepth 1000000 in
set_option maxHeartbeats 40000000 in
theorem pruneLegs_any (cn cd cpre cfil ctr : ByteArray) (cf : Bool) (cpt crt : Int) (D : Option Addr) (n dc : Nat) (ds : List P.Dest) (id run tm st dn flt : Int) (raw : ByteArray) (A : Option Addr) (m cp : Nat) (ls : List P.Leg) (RA : Option Addr) (rn rc : Nat) (routes : List ByteArray) (dest text : ByteArray) (now : Int) (B : Nat) (w : World)
    (hd : DestsAt w B D n ds) (hD : D = none → n = 0 ∧ dc = 0) (hl : LegsAt w B A m ls) (hA : A = none → m = 0 ∧ cp = 0) (hr : StrsAt w B RA rn routes) (hR : RA = none → rn = 0 ∧ rc = 0) (hB : B ≤ w.heap.size) (hn : n ≤ maxLen) (hm : m ≤ maxLen) (hrn : rn ≤ maxLen) (ht : text.size ≤ maxLen)
    (hw : ∀ d ∈ ds, (Lit.int .i64 d.chain).wf = true) (hwb : ∀ d ∈ ds, (Lit.int .i64 d.backoff).wf = true) (hnow : (Lit.int .i64 now).wf = true) (htr : ∀ l ∈ ls, (Lit.int .i64 l.tries).wf = true) :
    Calls Tryz.prog 3 #[.agg #[.string cn, .bool cf, .int .i64 cpt, .string cd, .string cpre, .string cfil, .string ctr, .slice D n dc, .int .i64 crt], .agg #[.int .i64 id, .int .i64 run, .int .i64 tm, .int .i64 st, .int .i64 dn, .string raw, .int .i64 flt, .slice A m cp], .slice RA rn rc, .string dest, .string text, .int .i64 now] w fun e w' => e = .returned (.bool true) ∧ Below w.heap.size w w' := by
  have hbel := ((Below.refl w.heap.size w).alloc (Nat.le_refl _) (.cells #[.string cn, .bool cf, .int .i64 cpt, .string cd, .string cpre, .string cfil, .string ctr, .slice D n dc, .int .i64 crt] 24)).alloc (by simp) (.cells #[.int .i64 id, .int .i64 run, .int .i64 tm, .int .i64 st, .int .i64 dn, .string raw, .int .i64 flt, .slice A m cp] 28)
  have k0 := (Blk.new w 24 #[.string cn, .bool cf, .int .i64 cpt, .string cd, .string cpre, .string cfil, .string ctr, .slice D n dc, .int .i64 crt]).alloc (.cells #[.int .i64 id, .int .i64 run, .int .i64 tm, .int .i64 st, .int .i64 dn, .string raw, .int .i64 flt, .slice A m cp] 28)
  have k1 := Blk.new (w.alloc (.cells #[.string cn, .bool cf, .int .i64 cpt, .string cd, .string cpre, .string cfil, .string ctr, .slice D n dc, .int .i64 crt] 24)) 28 #[.int .i64 id, .int .i64 run, .int .i64 tm, .int .i64 st, .int .i64 dn, .string raw, .int .i64 flt, .slice A m cp]
  rw [show (w.alloc (.cells #[.string cn, .bool cf, .int .i64 cpt, .string cd, .string cpre, .string cfil, .string ctr, .slice D n dc, .int .i64 crt] 24)).heap.size = w.heap.size + 1 from by simp] at k1
  have LI := light_any cn cd cpre cfil ctr cf cpt crt D n dc id run tm st dn flt raw A m cp ((w.alloc (.cells #[.string cn, .bool cf, .int .i64 cpt, .string cd, .string cpre, .string cfil, .string ctr, .slice D n dc, .int .i64 crt] 24)).alloc (.cells #[.int .i64 id, .int .i64 run, .int .i64 tm, .int .i64 st, .int .i64 dn, .string raw, .int .i64 flt, .slice A m cp] 28)) hn hm
  have AL := Lib.hid (fun W => alive_any W)
  unfold maxLen at hn hm hrn
  have HD := Lib.hid hd
  have HDN := Lib.hid hD
  have HL := Lib.hid hl
  have HLN := Lib.hid hA
  have HR := Lib.hid hr
  have HRN := Lib.hid hR
  have HW := Lib.hid hw
  have HWB := Lib.hid hwb
  have HNW := Lib.hid hnow
  have HTR := Lib.hid htr
  have HT := Lib.hid ht
  unfold maxLen at ht
  have K0 := Lib.hid k0
  have K1 := Lib.hid k1
  have BB := Lib.hid hbel
  have c0 := fun i => k0.cell i
  have c1 := fun i => k1.cell i
  have key : (decide (n ≤ 40) && decide (m ≤ 40)) = false ∨ ((decide (n ≤ 40) && decide (m ≤ 40)) = true ∧ n ≤ 40 ∧ m ≤ 40) := by
    by_cases h1 : n ≤ 40 <;> by_cases h2 : m ≤ 40 <;> simp [h1, h2]
  clear hd hD hl hA hr hR hw hwb hnow htr hbel k0 k1
  rcases key with hk | ⟨hk, hn4, hm4⟩
  · rw [hk] at LI
    have LI' := Lib.hid LI
    clear LI
    clear hk
    go_enter Tryz.func3, Tryz.ntmps3
    go_wp2_with fail
    refine LI'.out.mono ?_
    rintro x w2 ⟨rfl, hb2⟩
    have B2 := Lib.hid (BB.out.trans (hb2.mono BB.out.size))
    clear hb2 c0 c1
    go_wp2_with fail
    refine (AL.out _).mono ?_
    rintro x w3 ⟨rfl, hb3⟩
    have B3 := Lib.hid (bt'' B2.out hb3)
    clear hb3
    go_wp2
    go_ret
    exact ⟨rfl, B3.out⟩
  · rw [hk] at LI
    have LI' := Lib.hid LI
    clear LI
    clear hk
    by_cases hr4 : rn ≤ 40
    · have t1 : decide ((40 : Int) < (rn : Int)) = false := by simp; omega
      by_cases ht4 : text.size ≤ 9000
      · have t2 : decide ((9000 : Int) < (text.size : Int)) = false := by simp; omega
        go_enter Tryz.func3, Tryz.ntmps3
        go_wp2_with fail
        refine LI'.out.mono ?_
        rintro x w2 ⟨rfl, hb2⟩
        have B2 := Lib.hid (BB.out.trans (hb2.mono BB.out.size))
        have X0 := Lib.hid (K0.out.below hb2 K0.out.lt)
        have X1 := Lib.hid (K1.out.below hb2 K1.out.lt)
        clear hb2 c0 c1
        go_wp2_with fail
        go_loopw [14] (fun x wr => ∃ k : Nat, k ≤ 2 ∧ x = .int .i64 k ∧ BookI w2.heap.size k wr ∧ Below w2.heap.size w2 wr) (fun x _ => 2 - (intOf x).toNat)
        case atStart => exact ⟨0, by omega, rfl, BookI.start w2, (Below.refl _ _).alloc (Nat.le_refl _) _⟩
        case round =>
          obtain ⟨k, hk, rfl, hbk, hbr⟩ := hrel
          have BKr := Lib.hid hbk
          have HB2 := Lib.hid hbr
          have BW := Lib.hid (B2.out.trans (hbr.mono B2.out.size))
          have X0r := Lib.hid (X0.out.below hbr X0.out.lt)
          have X1r := Lib.hid (X1.out.below hbr X1.out.lt)
          have zr := hbr.size
          clear hbk hbr
          by_cases hlt : k < 2
          · have t3 : decide ((k : Int) < 2) = true := by simp; omega
            have DLEN := Lib.hid HD.out.len
            have LLEN := Lib.hid HL.out.len
            have RLEN := Lib.hid HR.out.len
            have DW := Lib.hid (fun W (hW : Below w.heap.size w W) => (HD.out.below (hW.mono hB)).more (Nat.le_trans hB hW.size))
            have LW := Lib.hid (fun W (hW : Below w.heap.size w W) => (HL.out.below (hW.mono hB)).more (Nat.le_trans hB hW.size))
            have SW := Lib.hid (fun W (hW : Below w.heap.size w W) => Reads.more (HR.out.below (hW.mono hB)) (Nat.le_trans hB hW.size))
            go_wp2_with fail
            refine wp_region_free 8 [] Stays (fun
              | 1 => some (fun v w' => ∃ g cap, v = .agg #[.string cn, .bool cf, .int .i64 cpt, .string cd, .string cpre, .string cfil, .string ctr, .slice (some ⟨g, 0, none⟩) n cap, .int .i64 crt] ∧ OwnD w' wr.heap.size (.slice (some ⟨g, 0, none⟩) (n + 1) cap) (ds ++ [markDest]))
              | 3 => some (fun v w' => ∃ g cap, v = .agg #[.int .i64 id, .int .i64 run, .int .i64 tm, .int .i64 st, .int .i64 dn, .string raw, .int .i64 flt, .slice (some ⟨g, 0, none⟩) m cap] ∧ OwnL w' wr.heap.size (.slice (some ⟨g, 0, none⟩) (m + 1) cap) (ls ++ [markLeg]))
              | 5 => some (fun v w' => ∃ g cap, v = .slice (some ⟨g, 0, none⟩) rn cap ∧ OwnS w' wr.heap.size (.slice (some ⟨g, 0, none⟩) (rn + 1) cap) (routes ++ [markText]))
              | 6 => some (fun v w' => ∃ g, v = .pointer (some ⟨g, 0, none⟩) ∧ wr.heap.size ≤ g ∧ Blk w' g 24 #[.string ⟨#[]⟩, .bool false, .int .i64 0, .string ⟨#[]⟩, .string ⟨#[]⟩, .string ⟨#[]⟩, .string ⟨#[]⟩, .slice none 0 0, .int .i64 0])
              | 7 => some (fun v w' => ∃ g, v = .pointer (some ⟨g, 0, none⟩) ∧ wr.heap.size ≤ g ∧ Blk w' g 28 #[.int .i64 0, .int .i64 0, .int .i64 0, .int .i64 0, .int .i64 0, .string ⟨#[]⟩, .int .i64 0, .slice none 0 0])
              | _ => none) (by kernel_rfl) (by kernel_rfl) Stays.refl (by simp) (Stays.draw _) Stays.trans ?_ ?_
            · intro j φ v x y hB hp hxy
              split at hB <;> cases hB
              · obtain ⟨g, c, e, o⟩ := hp
                exact ⟨g, c, e, OwnD.stays o hxy⟩
              · obtain ⟨g, c, e, o⟩ := hp
                exact ⟨g, c, e, OwnL.stays o hxy⟩
              · obtain ⟨g, c, e, o⟩ := hp
                exact ⟨g, c, e, OwnS.stays o hxy⟩
              · obtain ⟨g, e, h1, hb⟩ := hp
                exact ⟨g, e, h1, hb.stays hxy⟩
              · obtain ⟨g, e, h1, hb⟩ := hp
                exact ⟨g, e, h1, hb.stays hxy⟩
            · apply wpFree_pure rfl rfl
              · intro vs wx hk K hK
                have c0 := fun i => (X0r.out.stays hk.1).cell i
                go_simp
                exact hK _ (Stays.refl _)
              intro KK hKK
              go_simp
              refine hKK _ ?_
              clear hKK KK
              refine wpFree_fact rfl ?_ ?_
              · intro vs wx hk K hK
                have LE := lentD_any cn cd cpre cfil ctr cf cpt crt D n dc ds wx.heap.size wx (DW.out wx (bt' BW.out hk.1)) HDN.out (Nat.le_refl _) (by omega)
                go_simp
                exact LE.mono fun x w' ⟨g, cap, hx, ho, hb'⟩ => ⟨_, hx, hK _ _ hb' ⟨g, cap, rfl, ho.less hk.1.size⟩⟩
              intro KK hKK
              go_simp
              refine hKK _ ?_
              clear hKK KK
              apply wpFree_pure rfl rfl
              · intro vs wx hk K hK
                have c0 := fun i => (X1r.out.stays hk.1).cell i
                go_simp
                exact hK _ (Stays.refl _)
              intro KK hKK
              go_simp
              refine hKK _ ?_
              clear hKK KK
              refine wpFree_fact rfl ?_ ?_
              · intro vs wx hk K hK
                have LE := lent_any id run tm st dn flt raw A m cp ls wx.heap.size wx (LW.out wx (bt' BW.out hk.1)) HLN.out (Nat.le_refl _) (by omega)
                go_simp
                exact LE.mono fun x w' ⟨g, cap, hx, ho, hb'⟩ => ⟨_, hx, hK _ _ hb' ⟨g, cap, rfl, ho.less hk.1.size⟩⟩
              intro KK hKK
              go_simp
              refine hKK _ ?_
              clear hKK KK
              apply wpFree_pure rfl rfl
              · intro vs wx hk K hK
                go_simp
                exact hK _ (Stays.refl _)
              intro KK hKK
              go_simp
              refine hKK _ ?_
              clear hKK KK
              refine wpFree_fact rfl ?_ ?_
              · intro vs wx hk K hK
                have LE := lentTexts_any RA rn rc routes wx.heap.size wx (SW.out wx (bt' BW.out hk.1)) HRN.out (Nat.le_refl _) (by omega)
                go_simp
                exact LE.mono fun x w' ⟨g, cap, hx, ho, hb'⟩ => ⟨_, hx, hK _ _ hb' ⟨g, cap, rfl, ho.less hk.1.size⟩⟩
              intro KK hKK
              go_simp
              refine hKK _ ?_
              clear hKK KK
              refine wpFree_fact rfl ?_ ?_
              · intro vs wx hk K hK
                go_simp
                exact hK _ _ (Stays.alloc _ _) ⟨_, rfl, hk.1.size, Blk.new _ _ _⟩
              intro KK hKK
              go_simp
              refine hKK _ ?_
              clear hKK KK
              refine wpFree_fact rfl ?_ ?_
              · intro vs wx hk K hK
                go_simp
                exact hK _ _ (Stays.alloc _ _) ⟨_, rfl, hk.1.size, Blk.new _ _ _⟩
              intro KK hKK
              go_simp
              refine hKK _ ?_
              clear hKK KK
              refine wpFree_nil ?_
              intro vs w4 hs4 hf4
              obtain ⟨gD, cD, e1, oD⟩ := hf4 1 _ (by omega) rfl
              obtain ⟨gL, cL, e3, oL⟩ := hf4 3 _ (by omega) rfl
              obtain ⟨gS, cS, e5, oS⟩ := hf4 5 _ (by omega) rfl
              obtain ⟨gx, e6, hgx, bx⟩ := hf4 6 _ (by omega) rfl
              obtain ⟨gy, e7, hgy, by_⟩ := hf4 7 _ (by omega) rfl
              intro KK hKK
              rw [e1, e3, e5, e6, e7]
              clear hf4 e1 e3 e5 e6 e7
              simp only [List.drop_succ_cons, List.drop_zero]
              refine wpList_store_blk (cs' := #[.string cn, .bool cf, .int .i64 cpt, .string cd, .string cpre, .string cfil, .string ctr, .slice (some ⟨gD, 0, none⟩) n cD, .int .i64 crt]) rfl 24 (.tmp 15) (.tmp 45) rfl gx (by rfl) (by rfl) bx rfl (by kernel_rfl) (by simp [Value.oneCell']) ?_
              intro w5 hx5 hg5
              refine wpList_store_blk (cs' := #[.int .i64 id, .int .i64 run, .int .i64 tm, .int .i64 st, .int .i64 dn, .string raw, .int .i64 flt, .slice (some ⟨gL, 0, none⟩) m cL]) rfl 28 (.tmp 16) (.tmp 47) rfl gy (by rfl) (by rfl) (by_.grownAt hg5 (by rintro rfl; exact Blk.ne_ bx by_ (by decide) rfl)) rfl (by kernel_rfl) (by simp [Value.oneCell']) ?_
              intro w6 hy6 hg6
              have hby5 := by_.grownAt hg5 (by rintro rfl; exact Blk.ne_ bx by_ (by decide) rfl)
              have XB := Lib.hid (hx5.grownAt hg6 (by rintro rfl; exact Blk.ne_ hx5 hby5 (by decide) rfl))
              have YB := Lib.hid hy6
              have GG := Lib.hid (show Ch [some gx, some gy] wr w6 from (Ch.of_stays hs4 _).trans ((Ch.of_grown hg5 (by simp)).trans (Ch.of_grown hg6 (by simp))))
              have FR := Lib.hid (show Frame wr w6 w2.heap.size [24, 28] from (Frame.of_stays hs4 _ _).trans ((Frame.of_grown hg5 bx (by omega) (by simp)).trans (Frame.of_grown hg6 hby5 (by omega) (by simp))))
              have G46 := show Ch [some gx, some gy] w4 w6 from (Ch.of_grown hg5 (by simp)).trans (Ch.of_grown hg6 (by simp))
              have nD : ∀ g, (Value.slice (some ⟨gD, 0, none⟩) (n + 1) cD).ownBlock = some g → some g ∉ [some gx, some gy] := fun g hg hm => by
                simp only [List.mem_cons, List.not_mem_nil, or_false, Option.some.injEq] at hm
                rcases hm with rfl | rfl
                · exact own_ne oD bx (by decide) hg
                · exact own_ne oD by_ (by decide) hg
              have nL : ∀ g, (Value.slice (some ⟨gL, 0, none⟩) (m + 1) cL).ownBlock = some g → some g ∉ [some gx, some gy] := fun g hg hm => by
                simp only [List.mem_cons, List.not_mem_nil, or_false, Option.some.injEq] at hm
                rcases hm with rfl | rfl
                · exact own_ne oL bx (by decide) hg
                · exact own_ne oL by_ (by decide) hg
              have nS : ∀ g, (Value.slice (some ⟨gS, 0, none⟩) (rn + 1) cS).ownBlock = some g → some g ∉ [some gx, some gy] := fun g hg hm => by
                simp only [List.mem_cons, List.not_mem_nil, or_false, Option.some.injEq] at hm
                rcases hm with rfl | rfl
                · exact own_ne oS bx (by decide) hg
                · exact own_ne oS by_ (by decide) hg
              have OD := Lib.hid (show OwnD w6 wr.heap.size (.slice (some ⟨gD, 0, none⟩) (n + 1) cD) (ds ++ [markDest]) from own_ch oD G46 nD)
              have OL := Lib.hid (show OwnL w6 wr.heap.size (.slice (some ⟨gL, 0, none⟩) (m + 1) cL) (ls ++ [markLeg]) from own_ch oL G46 nL)
              have OS := Lib.hid (show OwnS w6 wr.heap.size (.slice (some ⟨gS, 0, none⟩) (rn + 1) cS) (routes ++ [markText]) from own_ch oS G46 nS)
              have B6 := Lib.hid (BW.out.trans (FR.out.below zr |>.mono B2.out.size))
              have z6 := FR.out.size
              clear hs4 oD oL oS bx by_ hx5 hy6 hg5 hg6 hby5 G46 nD nL nS
              have hcD := OD.out.cap
              have hcL := OL.out.cap
              have hcS := OS.out.cap
              have DX := Lib.hid (show DestsAt w6 w6.heap.size (some ⟨gD, 0, none⟩) n ds from reads_fore (n := n) (ys := markDest.cells) (by have h := OD.out; unfold OwnD at h; rw [List.length_append, DLEN.out, List.flatMap_append, List.flatMap_cons, List.flatMap_nil, List.append_nil] at h; exact h) (by rw [flat_len _ 9 dest_len, DLEN.out]) (by omega))
              have LX := Lib.hid (show LegsAt w6 w6.heap.size (some ⟨gL, 0, none⟩) m ls from reads_fore (n := m) (ys := markLeg.cells) (by have h := OL.out; unfold OwnL at h; rw [List.length_append, LLEN.out, List.flatMap_append, List.flatMap_cons, List.flatMap_nil, List.append_nil] at h; exact h) (by rw [flat_len _ 6 leg_len, LLEN.out]) (by omega))
              have SX := Lib.hid (show StrsAt w6 w6.heap.size (some ⟨gS, 0, none⟩) rn routes from reads_fore (n := rn) (ys := [Value.string markText]) (by have h := OS.out; unfold OwnS at h; rw [List.length_append, RLEN.out, List.map_append] at h; exact h) (by rw [List.length_map, RLEN.out, Nat.mul_one]) (by omega))
              have PL := Lib.hid (legs_any cn cd cpre cfil ctr cf cpt crt (some ⟨gD, 0, none⟩) n cD ds (some ⟨gS, 0, none⟩) rn cS routes text w6.heap.size w6 DX.out SX.out (Nat.le_refl _) (by omega) (by unfold maxLen; omega))
              have c0 := fun i => XB.out.cell i
              have c1 := fun i => YB.out.cell i
              go_wp2_with fail
              refine PL.out.mono ?_
              rintro x w7 ⟨vl, rfl, hol, hb7⟩
              have S7 := Lib.hid (show Stays w6 w7 from hb7)
              have VL := Lib.hid hol
              have XB7 := Lib.hid (XB.out.stays hb7)
              have YB7 := Lib.hid (YB.out.stays hb7)
              clear hol hb7 c0 c1
              have c0 := fun i => XB7.out.cell i
              have c1 := fun i => YB7.out.cell i
              have PN := Lib.hid (next_any id run tm st dn flt raw (some ⟨gL, 0, none⟩) m cL ls cn cd cpre cfil ctr cf cpt crt (some ⟨gD, 0, none⟩) n cD ds w7.heap.size w7 ((LX.out.below S7.out).more S7.out.size) ((DX.out.below S7.out).more S7.out.size) (Nat.le_refl _) (by unfold maxLen; omega) (by omega) HW.out)
              go_wp2_with fail
              refine PN.out.mono ?_
              rintro x w8 ⟨vn, rfl, hon, hb8⟩
              have S8 := Lib.hid (show Stays w6 w8 from S7.out.trans hb8)
              have VN := Lib.hid hon
              have VL8 := Lib.hid (OwnL.stays VL.out hb8)
              have XB8 := Lib.hid (XB7.out.stays hb8)
              have YB8 := Lib.hid (YB7.out.stays hb8)
              have z8 := S8.out.size
              have z78 := hb8.size
              clear hon hb8 c0 c1
              go_wp2_with fail
              have DZ := Lib.hid (fun (W : World) (hW : Stays w8 W) => (DX.out.below (S8.out.trans hW)).more (Nat.le_trans z8 hW.size))
              have LZ := Lib.hid (fun (W : World) (hW : Stays w8 W) => (LX.out.below (S8.out.trans hW)).more (Nat.le_trans z8 hW.size))
              have TM := Lib.hid (P.turned_moved st ds ls dest text)
              have HST := Lib.hid (ThreeRows.keep (ra := (RowIs id run tm st (P.doneOf st ds ls (P.movedTo P.sentTurn st ds ls dest text) dest dn now) flt raw (P.movedTo P.sentTurn st ds ls dest text) w8.heap.size)) (rb := (RowIs id run tm st (P.doneOf st ds ls (P.movedTo (P.triedTurn now ds) st ds ls dest text) dest dn now) flt raw (P.movedTo (P.triedTurn now ds) st ds ls dest text) w8.heap.size)) (rf := (RowIs id run tm st (P.doneOf st ds ls (P.movedTo (P.failTurn ds) st ds ls dest text) dest dn now) flt raw (P.movedTo (P.failTurn ds) st ds ls dest text) w8.heap.size)) (fun v x y h hs => h.stays hs) (fun v x y h hs => h.stays hs) (fun v x y h hs => h.stays hs))
              refine wp_region_genC 21 [5, 11, 17, 18, 19, 20] (FreshI [5, 11, 17, 18, 19, 20] (ThreeRows (RowIs id run tm st (P.doneOf st ds ls (P.movedTo P.sentTurn st ds ls dest text) dest dn now) flt raw (P.movedTo P.sentTurn st ds ls dest text) w8.heap.size) (RowIs id run tm st (P.doneOf st ds ls (P.movedTo (P.triedTurn now ds) st ds ls dest text) dest dn now) flt raw (P.movedTo (P.triedTurn now ds) st ds ls dest text) w8.heap.size) (RowIs id run tm st (P.doneOf st ds ls (P.movedTo (P.failTurn ds) st ds ls dest text) dest dn now) flt raw (P.movedTo (P.failTurn ds) st ds ls dest text) w8.heap.size)) w8) (by kernel_rfl) (by kernel_rfl) FreshI.start ?_
              apply wpGenC_pure rfl
              · intro L vs wx hI hC hR hL K hK
                have c0 := fun i => (XB8.out.stays hI.st).cell i
                go_simp
                exact hK _ (hI.pure (by decide))
              intro KK hKK
              go_simp
              refine hKK _ ?_
              clear hKK KK
              apply wpGenC_pure rfl
              · intro L vs wx hI hC hR hL K hK
                have c0 := fun i => (YB8.out.stays hI.st).cell i
                go_simp
                exact hK _ (hI.pure (by decide))
              intro KK hKK
              go_simp
              refine hKK _ ?_
              clear hKK KK
              apply wpGenC_pure rfl
              · intro L vs wx hI hC hR hL K hK
                go_simp
                exact hK _ (hI.pure (by decide))
              intro KK hKK
              go_simp
              refine hKK _ ?_
              clear hKK KK
              apply wpGenC_pure rfl
              · intro L vs wx hI hC hR hL K hK
                go_simp
                exact hK _ (hI.pure (by decide))
              intro KK hKK
              go_simp
              refine hKK _ ?_
              clear hKK KK
              apply wpGenC_pure rfl
              · intro L vs wx hI hC hR hL K hK
                go_simp
                exact hK _ (hI.pure (by decide))
              intro KK hKK
              go_simp
              refine hKK _ ?_
              clear hKK KK
              refine wpGenC_fact rfl ?_ ?_
              · intro L vs wx hI hC hR hL K hK
                have SE := sent_any cn cd cpre cfil ctr cf cpt crt (some ⟨gD, 0, none⟩) n cD ds id run tm st dn flt raw (some ⟨gL, 0, none⟩) m cL ls dest text now wx.heap.size wx (LZ.out wx hI.st) (DZ.out wx hI.st) (Nat.le_refl _) (by omega) (by omega) HW.out HTR.out HT.out
                rw [TM.out] at SE
                go_simp
                refine SE.mono ?_
                rintro e w' ⟨v0, rfl, ho, hb⟩
                exact ⟨_, rfl, hK _ _ (hI.new hb HST.out ⟨v0, rfl, ho.less hI.st.size⟩ (fun g hg => World.ownsRow.lt ho g hg))⟩
              intro KK hKK
              go_simp
              refine hKK _ ?_
              clear hKK KK
              apply wpGenC_pure rfl
              · intro L vs wx hI hC hR hL K hK
                have c0 := fun i => (XB8.out.stays hI.st).cell i
                go_simp
                exact hK _ (hI.pure (by decide))
              intro KK hKK
              go_simp
              refine hKK _ ?_
              clear hKK KK
              apply wpGenC_pure rfl
              · intro L vs wx hI hC hR hL K hK
                have c0 := fun i => (YB8.out.stays hI.st).cell i
                go_simp
                exact hK _ (hI.pure (by decide))
              intro KK hKK
              go_simp
              refine hKK _ ?_
              clear hKK KK
              apply wpGenC_pure rfl
              · intro L vs wx hI hC hR hL K hK
                go_simp
                exact hK _ (hI.pure (by decide))
              intro KK hKK
              go_simp
              refine hKK _ ?_
              clear hKK KK
              apply wpGenC_pure rfl
              · intro L vs wx hI hC hR hL K hK
                go_simp
                exact hK _ (hI.pure (by decide))
              intro KK hKK
              go_simp
              refine hKK _ ?_
              clear hKK KK
              apply wpGenC_pure rfl
              · intro L vs wx hI hC hR hL K hK
                go_simp
                exact hK _ (hI.pure (by decide))
              intro KK hKK
              go_simp
              refine hKK _ ?_
              clear hKK KK
              refine wpGenC_fact rfl ?_ ?_
              · intro L vs wx hI hC hR hL K hK
                have SE := tried_any cn cd cpre cfil ctr cf cpt crt (some ⟨gD, 0, none⟩) n cD ds id run tm st dn flt raw (some ⟨gL, 0, none⟩) m cL ls dest text now wx.heap.size wx (LZ.out wx hI.st) (DZ.out wx hI.st) (Nat.le_refl _) (by omega) (by omega) HW.out HWB.out HNW.out HTR.out HT.out
                go_simp
                refine SE.mono ?_
                rintro e w' ⟨v0, rfl, ho, hb⟩
                exact ⟨_, rfl, hK _ _ (hI.new hb HST.out ⟨v0, rfl, ho.less hI.st.size⟩ (fun g hg => World.ownsRow.lt ho g hg))⟩
              intro KK hKK
              go_simp
              refine hKK _ ?_
              clear hKK KK
              apply wpGenC_pure rfl
              · intro L vs wx hI hC hR hL K hK
                have c0 := fun i => (XB8.out.stays hI.st).cell i
                go_simp
                exact hK _ (hI.pure (by decide))
              intro KK hKK
              go_simp
              refine hKK _ ?_
              clear hKK KK
              apply wpGenC_pure rfl
              · intro L vs wx hI hC hR hL K hK
                have c0 := fun i => (YB8.out.stays hI.st).cell i
                go_simp
                exact hK _ (hI.pure (by decide))
              intro KK hKK
              go_simp
              refine hKK _ ?_
              clear hKK KK
              apply wpGenC_pure rfl
              · intro L vs wx hI hC hR hL K hK
                go_simp
                exact hK _ (hI.pure (by decide))
              intro KK hKK
              go_simp
              refine hKK _ ?_
              clear hKK KK
              apply wpGenC_pure rfl
              · intro L vs wx hI hC hR hL K hK
                go_simp
                exact hK _ (hI.pure (by decide))
              intro KK hKK
              go_simp
              refine hKK _ ?_
              clear hKK KK
              apply wpGenC_pure rfl
              · intro L vs wx hI hC hR hL K hK
                go_simp
                exact hK _ (hI.pure (by decide))
              intro KK hKK
              go_simp
              refine hKK _ ?_
              clear hKK KK
              refine wpGenC_fact rfl ?_ ?_
              · intro L vs wx hI hC hR hL K hK
                have SE := failed_any cn cd cpre cfil ctr cf cpt crt (some ⟨gD, 0, none⟩) n cD ds id run tm st dn flt raw (some ⟨gL, 0, none⟩) m cL ls dest text now wx.heap.size wx (LZ.out wx hI.st) (DZ.out wx hI.st) (Nat.le_refl _) (by omega) (by omega) HW.out HTR.out HT.out
                go_simp
                refine SE.mono ?_
                rintro e w' ⟨v0, rfl, ho, hb⟩
                exact ⟨_, rfl, hK _ _ (hI.new hb HST.out ⟨v0, rfl, ho.less hI.st.size⟩ (fun g hg => World.ownsRow.lt ho g hg))⟩
              intro KK hKK
              go_simp
              refine hKK _ ?_
              clear hKK KK
              refine wpGenC_fact rfl ?_ ?_
              · intro L vs wx hI hC hR hL K hK
                go_simp
                exact hK _ _ (hI.new (Stays.alloc _ _) HST.out ⟨_, rfl, Blk.new _ _ _⟩ (fun g hg => by cases hg; simp))
              intro KK hKK
              go_simp
              refine hKK _ ?_
              clear hKK KK
              refine wpGenC_fact rfl ?_ ?_
              · intro L vs wx hI hC hR hL K hK
                go_simp
                exact hK _ _ (hI.new (Stays.alloc _ _) HST.out ⟨_, rfl, Blk.new _ _ _⟩ (fun g hg => by cases hg; simp))
              intro KK hKK
              go_simp
              refine hKK _ ?_
              clear hKK KK
              refine wpGenC_fact rfl ?_ ?_
              · intro L vs wx hI hC hR hL K hK
                go_simp
                exact hK _ _ (hI.new (Stays.alloc _ _) HST.out ⟨_, rfl, Blk.new _ _ _⟩ (fun g hg => by cases hg; simp))
              intro KK hKK
              go_simp
              refine hKK _ ?_
              clear hKK KK
              refine wpGenC_nil ?_
              intro vs10 w9 hI9
              obtain ⟨⟨va, e5, oa⟩, -⟩ := hI9.fact 5 rfl rfl
              obtain ⟨⟨vb, e11, ob⟩, -⟩ := hI9.fact 11 rfl rfl
              obtain ⟨⟨vf, e17, of⟩, -⟩ := hI9.fact 17 rfl rfl
              obtain ⟨⟨g20, e18, b20⟩, q20⟩ := hI9.fact 18 rfl rfl
              obtain ⟨⟨g21, e19, b21⟩, q21⟩ := hI9.fact 19 rfl rfl
              obtain ⟨⟨g22, e20, b22⟩, q22⟩ := hI9.fact 20 rfl rfl
              have apab : ∀ g, va.ownBlock = some g → vb.ownBlock ≠ some g := fun g hg he => hI9.apart 5 11 g rfl rfl (by decide) rfl rfl (by rw [e5]; exact hg) (by rw [e11]; exact he)
              have apaf : ∀ g, va.ownBlock = some g → vf.ownBlock ≠ some g := fun g hg he => hI9.apart 5 17 g rfl rfl (by decide) rfl rfl (by rw [e5]; exact hg) (by rw [e17]; exact he)
              have apbf : ∀ g, vb.ownBlock = some g → vf.ownBlock ≠ some g := fun g hg he => hI9.apart 11 17 g rfl rfl (by decide) rfl rfl (by rw [e11]; exact hg) (by rw [e17]; exact he)
              have n01 : g20 ≠ g21 := fun e => hI9.apart 18 19 g20 rfl rfl (by decide) rfl rfl (by rw [e18]; rfl) (by rw [e19, e]; rfl)
              have n02 : g20 ≠ g22 := fun e => hI9.apart 18 20 g20 rfl rfl (by decide) rfl rfl (by rw [e18]; rfl) (by rw [e20, e]; rfl)
              have n12 : g21 ≠ g22 := fun e => hI9.apart 19 20 g21 rfl rfl (by decide) rfl rfl (by rw [e19]; rfl) (by rw [e20, e]; rfl)
              have q20 := (q20 g20 (by rw [e18]; rfl)).1
              have q21 := (q21 g21 (by rw [e19]; rfl)).1
              have q22 := (q22 g22 (by rw [e20]; rfl)).1
              have S9 := Lib.hid (show Stays w8 w9 from hI9.st)
              obtain ⟨Aa, ca, rfl, _⟩ := own_slice oa
              obtain ⟨Ab, cb, rfl, _⟩ := own_slice ob
              obtain ⟨Af, cff, rfl, _⟩ := own_slice of
              have OA := Lib.hid oa
              have OB := Lib.hid ob
              have OF := Lib.hid of
              have PAB := Lib.hid apab
              have PAF := Lib.hid apaf
              have PBF := Lib.hid apbf
              intro KK10 hKK10
              rw [e5, e11, e17, e18, e19, e20]
              clear hI9 e5 e11 e17 e18 e19 e20 oa ob of apab apaf apbf
              simp only [List.drop_succ_cons, List.drop_zero]
              refine wpList_store_blk (cs' := #[.int .i64 id, .int .i64 run, .int .i64 tm, .int .i64 st, .int .i64 (P.doneOf st ds ls (P.movedTo P.sentTurn st ds ls dest text) dest dn now), .string raw, .int .i64 flt, .slice Aa (P.movedTo P.sentTurn st ds ls dest text).length ca]) rfl 28 (.tmp 20) (.tmp 62) rfl g20 (by rfl) (by rfl) b20 rfl (by kernel_rfl) (by simp [Value.oneCell']) ?_
              intro w10 hk10 hg10
              have b21' := b21.grownAt hg10 (Ne.symm n01)
              have b22' := b22.grownAt hg10 (Ne.symm n02)
              refine wpList_store_blk (cs' := #[.int .i64 id, .int .i64 run, .int .i64 tm, .int .i64 st, .int .i64 (P.doneOf st ds ls (P.movedTo (P.triedTurn now ds) st ds ls dest text) dest dn now), .string raw, .int .i64 flt, .slice Ab (P.movedTo (P.triedTurn now ds) st ds ls dest text).length cb]) rfl 28 (.tmp 21) (.tmp 68) rfl g21 (by rfl) (by rfl) b21' rfl (by kernel_rfl) (by simp [Value.oneCell']) ?_
              intro w11 hk11 hg11
              have b22'' := b22'.grownAt hg11 (Ne.symm n12)
              refine wpList_store_blk (cs' := #[.int .i64 id, .int .i64 run, .int .i64 tm, .int .i64 st, .int .i64 (P.doneOf st ds ls (P.movedTo (P.failTurn ds) st ds ls dest text) dest dn now), .string raw, .int .i64 flt, .slice Af (P.movedTo (P.failTurn ds) st ds ls dest text).length cff]) rfl 28 (.tmp 22) (.tmp 74) rfl g22 (by rfl) (by rfl) b22'' rfl (by kernel_rfl) (by simp [Value.oneCell']) ?_
              intro w12 hk12 hg12
              have R20 := Lib.hid ((hk10.grownAt hg11 n01).grownAt hg12 n02)
              have R21 := Lib.hid (hk11.grownAt hg12 n12)
              have R22 := Lib.hid hk12
              have F12 := Lib.hid (show Frame w6 w12 w2.heap.size [24, 28] from (Frame.of_stays (S8.out.trans S9.out) _ _).trans ((Frame.of_grown hg10 b20 (by omega) (by simp)).trans ((Frame.of_grown hg11 b21' (by omega) (by simp)).trans (Frame.of_grown hg12 b22'' (by omega) (by simp)))))
              have F9 := Lib.hid (show Frame w9 w12 w2.heap.size [24, 28] from (Frame.of_grown hg10 b20 (by omega) (by simp)).trans ((Frame.of_grown hg11 b21' (by omega) (by simp)).trans (Frame.of_grown hg12 b22'' (by omega) (by simp))))
              have G69 := (show Ch [some g20, some g21, some g22] w8 w12 from (Ch.of_stays S9.out _).trans ((Ch.of_grown hg10 (by simp)).trans ((Ch.of_grown hg11 (by simp)).trans (Ch.of_grown hg12 (by simp)))))
              have XB12 := Lib.hid (XB8.out.ch G69 (fun hm => by have := XB8.out.lt; simp only [List.mem_cons, List.not_mem_nil, or_false, Option.some.injEq] at hm; omega))
              have YB12 := Lib.hid (YB8.out.ch G69 (fun hm => by have := YB8.out.lt; simp only [List.mem_cons, List.not_mem_nil, or_false, Option.some.injEq] at hm; omega))
              clear G69 hk10 hg10 hk11 hg11 hk12 hg12 b20 b21 b22 b21' b22' b22''
              have OA12 := Lib.hid (show OwnL w12 w8.heap.size (.slice Aa _ ca) _ from own_frame OA.out F9.out (by decide))
              have OB12 := Lib.hid (show OwnL w12 w8.heap.size (.slice Ab _ cb) _ from own_frame OB.out F9.out (by decide))
              have OF12 := Lib.hid (show OwnL w12 w8.heap.size (.slice Af _ cff) _ from own_frame OF.out F9.out (by decide))
              have VL12 := Lib.hid (show OwnL w12 w6.heap.size vl _ from own_frame (OwnL.stays VL8.out S9.out) F9.out (by decide))
              have VN12 := Lib.hid (show OwnS w12 w7.heap.size vn _ from own_frame (OwnS.stays VN.out S9.out) F9.out (by decide))
              have H12 := Lib.hid (show Below w2.heap.size w2 w12 from (HB2.out.trans (FR.out.below zr)).trans (F12.out.below (by omega)))
              have B12 := Lib.hid (B2.out.trans (H12.out.mono B2.out.size))
              have X012 := Lib.hid (X0.out.below H12.out X0.out.lt)
              have X112 := Lib.hid (X1.out.below H12.out X1.out.lt)
              have z12 := H12.out.size
              obtain ⟨Al, cl, rfl, hln⟩ := own_slice VL12.out
              obtain ⟨An, cnn, rfl, _⟩ := own_slice VN12.out
              have VLR := Lib.hid (show LegsAt w12 w12.heap.size Al (P.legsOf ds routes text).length (P.legsOf ds routes text) from OwnL.legs VL12.out)
              have VNR := Lib.hid (show StrsAt w12 w12.heap.size An (P.next st ds ls).length (P.next st ds ls) from Reads.of_own (c := cnn) VN12.out)
              have LAl := Lib.hid (P.movedTo_len (F := P.sentTurn) P.sentTurn_len st ds ls dest text)
              have LBl := Lib.hid (P.movedTo_len (F := P.triedTurn now ds) (P.triedTurn_len now ds) st ds ls dest text)
              have LFl := Lib.hid (P.movedTo_len (F := P.failTurn ds) (P.failTurn_len ds) st ds ls dest text)
              have LLl := Lib.hid (P.legsOf_len ds routes text)
              have LNl := Lib.hid (P.next_le st ds ls)
              have RAR := Lib.hid (show LegsAt w12 w12.heap.size Aa ((P.movedTo P.sentTurn st ds ls dest text)).length ((P.movedTo P.sentTurn st ds ls dest text)) from OwnL.legs OA12.out)
              have RBR := Lib.hid (show LegsAt w12 w12.heap.size Ab ((P.movedTo (P.triedTurn now ds) st ds ls dest text)).length ((P.movedTo (P.triedTurn now ds) st ds ls dest text)) from OwnL.legs OB12.out)
              have RFR := Lib.hid (show LegsAt w12 w12.heap.size Af ((P.movedTo (P.failTurn ds) st ds ls dest text)).length ((P.movedTo (P.failTurn ds) st ds ls dest text)) from OwnL.legs OF12.out)
              have BN := Lib.hid (show (P.legsOf ds routes text).length ≤ 40 ∧ (P.next st ds ls).length ≤ 40 ∧ ((P.movedTo P.sentTurn st ds ls dest text)).length ≤ 40 ∧ ((P.movedTo (P.triedTurn now ds) st ds ls dest text)).length ≤ 40 ∧ ((P.movedTo (P.failTurn ds) st ds ls dest text)).length ≤ 40 from by
                have h1 := LLl.out; have h2 := LNl.out; have h3 := LAl.out; have h4 := LBl.out; have h5 := LFl.out; have h6 := DLEN.out; have h7 := LLEN.out
                exact ⟨by omega, by omega, by omega, by omega, by omega⟩)
              go_wp2_with fail
              refine wp_region_free 48 [] Stays (fun
                | 4 => some (fun v w' => OwnL w' w12.heap.size v (P.legsOf ds routes text))
                | 11 => some (fun v w' => OwnS w' w12.heap.size v (P.next st ds ls))
                | 22 => some (RowIs id run tm st (P.doneOf st ds ls (P.movedTo P.sentTurn st ds ls dest text) dest dn now) flt raw (P.movedTo P.sentTurn st ds ls dest text) w12.heap.size)
                | 33 => some (RowIs id run tm st (P.doneOf st ds ls (P.movedTo (P.triedTurn now ds) st ds ls dest text) dest dn now) flt raw (P.movedTo (P.triedTurn now ds) st ds ls dest text) w12.heap.size)
                | 44 => some (RowIs id run tm st (P.doneOf st ds ls (P.movedTo (P.failTurn ds) st ds ls dest text) dest dn now) flt raw (P.movedTo (P.failTurn ds) st ds ls dest text) w12.heap.size)
                | _ => none) (by kernel_rfl) (by kernel_rfl) Stays.refl (by simp) (Stays.draw _) Stays.trans ?_ ?_
              · intro j φ v x y hB hp hxy
                split at hB <;> cases hB
                · exact OwnL.stays hp hxy
                · exact OwnS.stays hp hxy
                · exact hp.stays hxy
                · exact hp.stays hxy
                · exact hp.stays hxy
              · apply wpFree_pure rfl rfl
                · intro vs wx hk K hK
                  go_simp
                  exact hK _ (Stays.refl _)
                intro KK hKK
                go_simp
                refine hKK _ ?_
                clear hKK KK
                apply wpFree_pure rfl rfl
                · intro vs wx hk K hK
                  have c0 := fun i => (X012.out.stays hk.1).cell i
                  go_simp
                  exact hK _ (Stays.refl _)
                intro KK hKK
                go_simp
                refine hKK _ ?_
                clear hKK KK
                apply wpFree_pure rfl rfl
                · intro vs wx hk K hK
                  go_simp
                  exact hK _ (Stays.refl _)
                intro KK hKK
                go_simp
                refine hKK _ ?_
                clear hKK KK
                apply wpFree_pure rfl rfl
                · intro vs wx hk K hK
                  go_simp
                  exact hK _ (Stays.refl _)
                intro KK hKK
                go_simp
                refine hKK _ ?_
                clear hKK KK
                refine wpFree_fact rfl ?_ ?_
                · intro vs wx hk K hK
                  have CE := refLegs_any cn cd cpre cfil ctr cf cpt crt D n dc ds RA rn rc routes text wx.heap.size wx (DW.out wx (bt' B12.out hk.1)) (SW.out wx (bt' B12.out hk.1)) (Nat.le_refl _) (by omega) (by unfold maxLen; omega)
                  go_simp
                  exact CE.mono fun x w' ⟨v, hx, ho, hb'⟩ => ⟨v, hx, hK _ _ hb' (ho.less hk.1.size)⟩
                intro KK hKK
                go_simp
                refine hKK _ ?_
                clear hKK KK
                apply wpFree_pure rfl rfl
                · intro vs wx hk K hK
                  obtain ⟨A2, c2, hv, hs⟩ := OwnL.reads (hk.2 4 _ rfl (by kernel_rfl))
                  have CC := sameLegs_any Al (P.legsOf ds routes text).length cl (P.legsOf ds routes text) A2 c2 wx.heap.size wx ((VLR.out.below hk.1).more hk.1.size) hs (Nat.le_refl _) (by have := BN.out; unfold maxLen; omega)
                  go_simp
                  first
                    | exact hK _ (Stays.refl _)
                    | exact Calls.free hK CC
                intro KK hKK
                go_simp
                refine hKK _ ?_
                clear hKK KK
                apply wpFree_pure rfl rfl
                · intro vs wx hk K hK
                  go_simp
                  exact hK _ (Stays.refl _)
                intro KK hKK
                go_simp
                refine hKK _ ?_
                clear hKK KK
                apply wpFree_pure rfl rfl
                · intro vs wx hk K hK
                  go_simp
                  exact hK _ (Stays.refl _)
                intro KK hKK
                go_simp
                refine hKK _ ?_
                clear hKK KK
                apply wpFree_pure rfl rfl
                · intro vs wx hk K hK
                  go_simp
                  exact hK _ (Stays.refl _)
                intro KK hKK
                go_simp
                refine hKK _ ?_
                clear hKK KK
                apply wpFree_pure rfl rfl
                · intro vs wx hk K hK
                  have c0 := fun i => (X012.out.stays hk.1).cell i
                  go_simp
                  exact hK _ (Stays.refl _)
                intro KK hKK
                go_simp
                refine hKK _ ?_
                clear hKK KK
                apply wpFree_pure rfl rfl
                · intro vs wx hk K hK
                  have c1 := fun i => (X112.out.stays hk.1).cell i
                  go_simp
                  exact hK _ (Stays.refl _)
                intro KK hKK
                go_simp
                refine hKK _ ?_
                clear hKK KK
                refine wpFree_fact rfl ?_ ?_
                · intro vs wx hk K hK
                  have CE := refNext_any id run tm st dn flt raw A m cp ls cn cd cpre cfil ctr cf cpt crt D n dc ds wx.heap.size wx (LW.out wx (bt' B12.out hk.1)) (DW.out wx (bt' B12.out hk.1)) (Nat.le_refl _) (by unfold maxLen; omega) (by omega)
                  go_simp
                  exact CE.mono fun x w' ⟨v, hx, ho, hb'⟩ => ⟨v, hx, hK _ _ hb' (ho.less hk.1.size)⟩
                intro KK hKK
                go_simp
                refine hKK _ ?_
                clear hKK KK
                apply wpFree_pure rfl rfl
                · intro vs wx hk K hK
                  obtain ⟨A2, c2, hv, hs⟩ := OwnS.reads (hk.2 11 _ rfl (by kernel_rfl))
                  have CC := sameTexts_any An (P.next st ds ls).length cnn (P.next st ds ls) A2 c2 wx.heap.size wx (Reads.more (VNR.out.below hk.1) hk.1.size) hs (Nat.le_refl _) (by have := BN.out; unfold maxLen; omega)
                  go_simp
                  first
                    | exact hK _ (Stays.refl _)
                    | exact Calls.free hK CC
                intro KK hKK
                go_simp
                refine hKK _ ?_
                clear hKK KK
                apply wpFree_pure rfl rfl
                · intro vs wx hk K hK
                  go_simp
                  exact hK _ (Stays.refl _)
                intro KK hKK
                go_simp
                refine hKK _ ?_
                clear hKK KK
                apply wpFree_pure rfl rfl
                · intro vs wx hk K hK
                  go_simp
                  exact hK _ (Stays.refl _)
                intro KK hKK
                go_simp
                refine hKK _ ?_
                clear hKK KK
                apply wpFree_pure rfl rfl
                · intro vs wx hk K hK
                  go_simp
                  exact hK _ (Stays.refl _)
                intro KK hKK
                go_simp
                refine hKK _ ?_
                clear hKK KK
                apply wpFree_pure rfl rfl
                · intro vs wx hk K hK
                  have c2 := fun i => (R20.out.stays hk.1).cell i
                  go_simp
                  exact hK _ (Stays.refl _)
                intro KK hKK
                go_simp
                refine hKK _ ?_
                clear hKK KK
                apply wpFree_pure rfl rfl
                · intro vs wx hk K hK
                  have c0 := fun i => (X012.out.stays hk.1).cell i
                  go_simp
                  exact hK _ (Stays.refl _)
                intro KK hKK
                go_simp
                refine hKK _ ?_
                clear hKK KK
                apply wpFree_pure rfl rfl
                · intro vs wx hk K hK
                  have c1 := fun i => (X112.out.stays hk.1).cell i
                  go_simp
                  exact hK _ (Stays.refl _)
                intro KK hKK
                go_simp
                refine hKK _ ?_
                clear hKK KK
                apply wpFree_pure rfl rfl
                · intro vs wx hk K hK
                  go_simp
                  exact hK _ (Stays.refl _)
                intro KK hKK
                go_simp
                refine hKK _ ?_
                clear hKK KK
                apply wpFree_pure rfl rfl
                · intro vs wx hk K hK
                  go_simp
                  exact hK _ (Stays.refl _)
                intro KK hKK
                go_simp
                refine hKK _ ?_
                clear hKK KK
                apply wpFree_pure rfl rfl
                · intro vs wx hk K hK
                  go_simp
                  exact hK _ (Stays.refl _)
                intro KK hKK
                go_simp
                refine hKK _ ?_
                clear hKK KK
                refine wpFree_fact rfl ?_ ?_
                · intro vs wx hk K hK
                  have CE := refSent_any cn cd cpre cfil ctr cf cpt crt D n dc ds id run tm st dn flt raw A m cp ls dest text now wx.heap.size wx (LW.out wx (bt' B12.out hk.1)) HLN.out (DW.out wx (bt' B12.out hk.1)) (Nat.le_refl _) (by omega) (by omega) HTR.out HT.out
                  go_simp
                  exact CE.mono fun x w' ⟨v, hx, ho, hb'⟩ => ⟨_, hx, hK _ _ hb' ⟨v, rfl, ho.less hk.1.size⟩⟩
                intro KK hKK
                go_simp
                refine hKK _ ?_
                clear hKK KK
                apply wpFree_pure rfl rfl
                · intro vs wx hk K hK
                  obtain ⟨v0, hv, ho⟩ := hk.2 22 _ rfl (by kernel_rfl)
                  obtain ⟨A2, c2, rfl, hs⟩ := OwnL.reads ho
                  have CC := sameRow_any id run tm st (P.doneOf st ds ls (P.movedTo P.sentTurn st ds ls dest text) dest dn now) flt raw Aa ((P.movedTo P.sentTurn st ds ls dest text)).length ca (P.movedTo P.sentTurn st ds ls dest text) A2 c2 wx.heap.size wx ((RAR.out.below hk.1).more hk.1.size) hs (Nat.le_refl _) (by have := BN.out; unfold maxLen; omega)
                  clear ho hs
                  go_simp
                  first
                    | exact hK _ (Stays.refl _)
                    | exact Calls.free hK CC
                intro KK hKK
                go_simp
                refine hKK _ ?_
                clear hKK KK
                apply wpFree_pure rfl rfl
                · intro vs wx hk K hK
                  go_simp
                  exact hK _ (Stays.refl _)
                intro KK hKK
                go_simp
                refine hKK _ ?_
                clear hKK KK
                apply wpFree_pure rfl rfl
                · intro vs wx hk K hK
                  go_simp
                  exact hK _ (Stays.refl _)
                intro KK hKK
                go_simp
                refine hKK _ ?_
                clear hKK KK
                apply wpFree_pure rfl rfl
                · intro vs wx hk K hK
                  go_simp
                  exact hK _ (Stays.refl _)
                intro KK hKK
                go_simp
                refine hKK _ ?_
                clear hKK KK
                apply wpFree_pure rfl rfl
                · intro vs wx hk K hK
                  have c2 := fun i => (R21.out.stays hk.1).cell i
                  go_simp
                  exact hK _ (Stays.refl _)
                intro KK hKK
                go_simp
                refine hKK _ ?_
                clear hKK KK
                apply wpFree_pure rfl rfl
                · intro vs wx hk K hK
                  have c0 := fun i => (X012.out.stays hk.1).cell i
                  go_simp
                  exact hK _ (Stays.refl _)
                intro KK hKK
                go_simp
                refine hKK _ ?_
                clear hKK KK
                apply wpFree_pure rfl rfl
                · intro vs wx hk K hK
                  have c1 := fun i => (X112.out.stays hk.1).cell i
                  go_simp
                  exact hK _ (Stays.refl _)
                intro KK hKK
                go_simp
                refine hKK _ ?_
                clear hKK KK
                apply wpFree_pure rfl rfl
                · intro vs wx hk K hK
                  go_simp
                  exact hK _ (Stays.refl _)
                intro KK hKK
                go_simp
                refine hKK _ ?_
                clear hKK KK
                apply wpFree_pure rfl rfl
                · intro vs wx hk K hK
                  go_simp
                  exact hK _ (Stays.refl _)
                intro KK hKK
                go_simp
                refine hKK _ ?_
                clear hKK KK
                apply wpFree_pure rfl rfl
                · intro vs wx hk K hK
                  go_simp
                  exact hK _ (Stays.refl _)
                intro KK hKK
                go_simp
                refine hKK _ ?_
                clear hKK KK
                refine wpFree_fact rfl ?_ ?_
                · intro vs wx hk K hK
                  have CE := refTried_any cn cd cpre cfil ctr cf cpt crt D n dc ds id run tm st dn flt raw A m cp ls dest text now wx.heap.size wx (LW.out wx (bt' B12.out hk.1)) HLN.out (DW.out wx (bt' B12.out hk.1)) (Nat.le_refl _) (by omega) (by omega) HTR.out HT.out HNW.out HWB.out
                  go_simp
                  exact CE.mono fun x w' ⟨v, hx, ho, hb'⟩ => ⟨_, hx, hK _ _ hb' ⟨v, rfl, ho.less hk.1.size⟩⟩
                intro KK hKK
                go_simp
                refine hKK _ ?_
                clear hKK KK
                apply wpFree_pure rfl rfl
                · intro vs wx hk K hK
                  obtain ⟨v0, hv, ho⟩ := hk.2 33 _ rfl (by kernel_rfl)
                  obtain ⟨A2, c2, rfl, hs⟩ := OwnL.reads ho
                  have CC := sameRow_any id run tm st (P.doneOf st ds ls (P.movedTo (P.triedTurn now ds) st ds ls dest text) dest dn now) flt raw Ab ((P.movedTo (P.triedTurn now ds) st ds ls dest text)).length cb (P.movedTo (P.triedTurn now ds) st ds ls dest text) A2 c2 wx.heap.size wx ((RBR.out.below hk.1).more hk.1.size) hs (Nat.le_refl _) (by have := BN.out; unfold maxLen; omega)
                  clear ho hs
                  go_simp
                  first
                    | exact hK _ (Stays.refl _)
                    | exact Calls.free hK CC
                intro KK hKK
                go_simp
                refine hKK _ ?_
                clear hKK KK
                apply wpFree_pure rfl rfl
                · intro vs wx hk K hK
                  go_simp
                  exact hK _ (Stays.refl _)
                intro KK hKK
                go_simp
                refine hKK _ ?_
                clear hKK KK
                apply wpFree_pure rfl rfl
                · intro vs wx hk K hK
                  go_simp
                  exact hK _ (Stays.refl _)
                intro KK hKK
                go_simp
                refine hKK _ ?_
                clear hKK KK
                apply wpFree_pure rfl rfl
                · intro vs wx hk K hK
                  go_simp
                  exact hK _ (Stays.refl _)
                intro KK hKK
                go_simp
                refine hKK _ ?_
                clear hKK KK
                apply wpFree_pure rfl rfl
                · intro vs wx hk K hK
                  have c2 := fun i => (R22.out.stays hk.1).cell i
                  go_simp
                  exact hK _ (Stays.refl _)
                intro KK hKK
                go_simp
                refine hKK _ ?_
                clear hKK KK
                apply wpFree_pure rfl rfl
                · intro vs wx hk K hK
                  have c0 := fun i => (X012.out.stays hk.1).cell i
                  go_simp
                  exact hK _ (Stays.refl _)
                intro KK hKK
                go_simp
                refine hKK _ ?_
                clear hKK KK
                apply wpFree_pure rfl rfl
                · intro vs wx hk K hK
                  have c1 := fun i => (X112.out.stays hk.1).cell i
                  go_simp
                  exact hK _ (Stays.refl _)
                intro KK hKK
                go_simp
                refine hKK _ ?_
                clear hKK KK
                apply wpFree_pure rfl rfl
                · intro vs wx hk K hK
                  go_simp
                  exact hK _ (Stays.refl _)
                intro KK hKK
                go_simp
                refine hKK _ ?_
                clear hKK KK
                apply wpFree_pure rfl rfl
                · intro vs wx hk K hK
                  go_simp
                  exact hK _ (Stays.refl _)
                intro KK hKK
                go_simp
                refine hKK _ ?_
                clear hKK KK
                apply wpFree_pure rfl rfl
                · intro vs wx hk K hK
                  go_simp
                  exact hK _ (Stays.refl _)
                intro KK hKK
                go_simp
                refine hKK _ ?_
                clear hKK KK
                refine wpFree_fact rfl ?_ ?_
                · intro vs wx hk K hK
                  have CE := refFailed_any cn cd cpre cfil ctr cf cpt crt D n dc ds id run tm st dn flt raw A m cp ls dest text now wx.heap.size wx (LW.out wx (bt' B12.out hk.1)) HLN.out (DW.out wx (bt' B12.out hk.1)) (Nat.le_refl _) (by omega) (by omega) HTR.out HT.out
                  go_simp
                  exact CE.mono fun x w' ⟨v, hx, ho, hb'⟩ => ⟨_, hx, hK _ _ hb' ⟨v, rfl, ho.less hk.1.size⟩⟩
                intro KK hKK
                go_simp
                refine hKK _ ?_
                clear hKK KK
                apply wpFree_pure rfl rfl
                · intro vs wx hk K hK
                  obtain ⟨v0, hv, ho⟩ := hk.2 44 _ rfl (by kernel_rfl)
                  obtain ⟨A2, c2, rfl, hs⟩ := OwnL.reads ho
                  have CC := sameRow_any id run tm st (P.doneOf st ds ls (P.movedTo (P.failTurn ds) st ds ls dest text) dest dn now) flt raw Af ((P.movedTo (P.failTurn ds) st ds ls dest text)).length cff (P.movedTo (P.failTurn ds) st ds ls dest text) A2 c2 wx.heap.size wx ((RFR.out.below hk.1).more hk.1.size) hs (Nat.le_refl _) (by have := BN.out; unfold maxLen; omega)
                  clear ho hs
                  go_simp
                  first
                    | exact hK _ (Stays.refl _)
                    | exact Calls.free hK CC
                intro KK hKK
                go_simp
                refine hKK _ ?_
                clear hKK KK
                apply wpFree_pure rfl rfl
                · intro vs wx hk K hK
                  go_simp
                  exact hK _ (Stays.refl _)
                intro KK hKK
                go_simp
                refine hKK _ ?_
                clear hKK KK
                apply wpFree_pure rfl rfl
                · intro vs wx hk K hK
                  go_simp
                  exact hK _ (Stays.refl _)
                intro KK hKK
                go_simp
                refine hKK _ ?_
                clear hKK KK
                refine wpFree_nil ?_
                intro vs13 w13 hs13 _
                have S13 := Lib.hid hs13
                clear hs13
                intro KK13 hKK13
                simp only [List.drop_succ_cons, List.drop_nil]
                have XB13 := Lib.hid (XB12.out.stays S13.out)
                have YB13 := Lib.hid (YB12.out.stays S13.out)
                have X013 := Lib.hid (X012.out.stays S13.out)
                have X113 := Lib.hid (X112.out.stays S13.out)
                have OD13 := Lib.hid (show OwnD w13 wr.heap.size (.slice (some ⟨gD, 0, none⟩) (n + 1) cD) (ds ++ [markDest]) from own_stays (own_frame OD.out F12.out (by decide)) S13.out)
                have OL13 := Lib.hid (show OwnL w13 wr.heap.size (.slice (some ⟨gL, 0, none⟩) (m + 1) cL) (ls ++ [markLeg]) from own_stays (own_frame OL.out F12.out (by decide)) S13.out)
                have OS13 := Lib.hid (show OwnS w13 wr.heap.size (.slice (some ⟨gS, 0, none⟩) (rn + 1) cS) (routes ++ [markText]) from own_stays (own_frame OS.out F12.out (by decide)) S13.out)
                have B13 := Lib.hid (bt' B12.out S13.out)
                have FD := Lib.hid (show w13.ownsRow wr.heap.size 67 9 (.slice (some ⟨gD, 0, none⟩) (n + 1) cD) (n + 1) (ds.flatMap P.Dest.cells ++ markDest.cells) from by have h := OD13.out; unfold OwnD at h; rw [List.length_append, DLEN.out, List.flatMap_append, List.flatMap_cons, List.flatMap_nil, List.append_nil] at h; exact h)
                have FL := Lib.hid (show w13.ownsRow wr.heap.size 69 6 (.slice (some ⟨gL, 0, none⟩) (m + 1) cL) (m + 1) (ls.flatMap P.Leg.cells ++ markLeg.cells) from by have h := OL13.out; unfold OwnL at h; rw [List.length_append, LLEN.out, List.flatMap_append, List.flatMap_cons, List.flatMap_nil, List.append_nil] at h; exact h)
                have FS := Lib.hid (show w13.ownsRow wr.heap.size 9 1 (.slice (some ⟨gS, 0, none⟩) (rn + 1) cS) (rn + 1) (routes.map Value.string ++ [Value.string markText]) from by have h := OS13.out; unfold OwnS at h; rw [List.length_append, RLEN.out, List.map_append] at h; exact h)
                have LD9 := Lib.hid (show (ds.flatMap P.Dest.cells).length = n * 9 from by rw [flat_len _ 9 dest_len, DLEN.out])
                have LL6 := Lib.hid (show (ls.flatMap P.Leg.cells).length = m * 6 from by rw [flat_len _ 6 leg_len, LLEN.out])
                have LS1 := Lib.hid (show (routes.map Value.string).length = rn * 1 from by rw [List.length_map, RLEN.out, Nat.mul_one])
                have c0 := fun i => XB13.out.cell i
                have c1 := fun i => X013.out.cell i
                have SD := Lib.hid (staysD_any cn cd cpre cfil ctr cf cpt crt gD n cD ds D dc w13.heap.size w13 (reads_fore FD.out LD9.out (by omega)) (cell_behind FD.out LD9.out rfl) (World.ownsRow.lt FD.out gD rfl).2 hcD.1 hcD.2 (DW.out w13 B13.out) (Nat.le_refl _))
                go_wp2_with fail
                refine SD.out.mono ?_
                rintro x w14 ⟨rfl, hb14⟩
                have S14 := Lib.hid (show Stays w13 w14 from hb14)
                clear hb14 c0 c1
                have YB14 := Lib.hid (YB13.out.stays S14.out)
                have X114 := Lib.hid (X113.out.stays S14.out)
                have B14 := Lib.hid (bt' B13.out S14.out)
                have c0 := fun i => YB14.out.cell i
                have c1 := fun i => X114.out.cell i
                have SL := Lib.hid (stays_any id run tm st dn flt raw gL m cL ls A cp w14.heap.size w14 (reads_fore (own_stays FL.out S14.out) LL6.out (by omega)) (cell_behind (own_stays FL.out S14.out) LL6.out rfl) (World.ownsRow.lt (own_stays FL.out S14.out) gL rfl).2 hcL.1 hcL.2 (LW.out w14 B14.out) (Nat.le_refl _))
                go_wp2_with fail
                refine SL.out.mono ?_
                rintro x w15 ⟨rfl, hb15⟩
                have S15 := Lib.hid (show Stays w13 w15 from S14.out.trans hb15)
                clear hb15 c0 c1
                have B15 := Lib.hid (bt' B13.out S15.out)
                have ST := Lib.hid (staysTexts_any gS rn cS routes RA rc w15.heap.size w15 (reads_fore (own_stays FS.out S15.out) LS1.out (by omega)) (cell_behind (own_stays FS.out S15.out) (by rw [LS1.out, Nat.mul_one]) rfl) (World.ownsRow.lt (own_stays FS.out S15.out) gS rfl).2 hcS.1 hcS.2 (SW.out w15 B15.out) (Nat.le_refl _))
                go_wp2_with fail
                refine ST.out.mono ?_
                rintro x w16 ⟨rfl, hb16⟩
                have S16 := Lib.hid (show Stays w12 w16 from S13.out.trans (S15.out.trans hb16))
                clear hb16
                obtain ⟨tx, tw, lg, lw, tv, tu, v, u, ts, l, bb, kt1, kt2, ne1, kl1, kl2, ne2⟩ := BKr.out
                have VU := Lib.hid (fun i g (hi : i < 4 * k) (hg : (v i).ownBlock = some g) => (World.ownsRow.lt (kl1.own i hi) g hg).2)
                have TU := Lib.hid (fun i g (hi : i < k) (hg : (tv i).ownBlock = some g) => (World.ownsRow.lt (kt1.own i hi) g hg).2)
                have NE1 := Lib.hid ne1
                have NE2 := Lib.hid ne2
                have FA := Lib.hid (show Frame wr w16 w2.heap.size [24, 28] from FR.out.trans (F12.out.trans (Frame.of_stays S16.out _ _)))
                have BK16 := Lib.hid (bb.frame FA.out (by decide))
                have KT1 := Lib.hid (kt1.frame FA.out (by decide) (by decide))
                have KT2 := Lib.hid (kt2.frame FA.out (by decide) (by decide))
                have KL1 := Lib.hid (kl1.frame FA.out (by decide) (by decide))
                have KL2 := Lib.hid (kl2.frame FA.out (by decide) (by decide))
                clear bb kt1 kt2 ne1 kl1 kl2 ne2
                have OL16 := Lib.hid (OwnL.stays VL12.out S16.out)
                have ON16 := Lib.hid (own_stays (OwnS.flat VN12.out) S16.out)
                have OA16 := Lib.hid (OwnL.stays OA12.out S16.out)
                have OB16 := Lib.hid (OwnL.stays OB12.out S16.out)
                have OF16 := Lib.hid (OwnL.stays OF12.out S16.out)
                have R20a := Lib.hid (R20.out.stays S16.out)
                have R21a := Lib.hid (R21.out.stays S16.out)
                have R22a := Lib.hid (R22.out.stays S16.out)
                have VLU := Lib.hid (fun g hg => World.ownsRow.lt VL.out g hg)
                have VNU := Lib.hid (fun g hg => World.ownsRow.lt VN.out g hg)
                have VAU := Lib.hid (fun g hg => (World.ownsRow.lt OA12.out g hg).1)
                have VBU := Lib.hid (fun g hg => (World.ownsRow.lt OB12.out g hg).1)
                have VFU := Lib.hid (fun g hg => (World.ownsRow.lt OF12.out g hg).1)
                have hk4 : 4 * k ≤ 4 := by omega
                have BN' := BN.out
                have K1 := Lib.hid (bookLegs2_any w2.heap.size w2.heap.size w6.heap.size tx tw lg lw (.slice Al (P.legsOf ds routes text).length cl) (4 * k) (P.legsOf ds routes text) v u l w16 BK16.out KL1.out KL2.out NE2.out OL16.out (fun i g hi hg e => by
                  have h1 := VU.out i g hi hg
                  have h2 := (VLU.out g e).1
                  omega) (by omega) (by omega) (Nat.le_refl _) (by omega))
                go_wp2_with fail
                refine K1.out.mono ?_
                rintro x w17 ⟨rfl, lg17, lw17, x17, b17, kl17, ku17, ne17, f17⟩
                have BK17 := Lib.hid b17
                have KL17 := Lib.hid kl17
                have KU17 := Lib.hid ku17
                have NE17 := Lib.hid ne17
                have F17 := Lib.hid f17
                clear b17 kl17 ku17 ne17 f17
                have KT1b := Lib.hid (KT1.out.frame F17.out (by decide) (by decide))
                have KT2b := Lib.hid (KT2.out.frame F17.out (by decide) (by decide))
                have ON17 := Lib.hid (own_frame ON16.out F17.out (by decide))
                have OA17 := Lib.hid (show OwnL w17 _ (.slice Aa (P.movedTo P.sentTurn st ds ls dest text).length ca) _ from own_frame OA16.out F17.out (by decide))
                have OB17 := Lib.hid (show OwnL w17 _ (.slice Ab (P.movedTo (P.triedTurn now ds) st ds ls dest text).length cb) _ from own_frame OB16.out F17.out (by decide))
                have OF17 := Lib.hid (show OwnL w17 _ (.slice Af (P.movedTo (P.failTurn ds) st ds ls dest text).length cff) _ from own_frame OF16.out F17.out (by decide))
                have R20b := Lib.hid (R20a.out.frame F17.out (by decide))
                have R21b := Lib.hid (R21a.out.frame F17.out (by decide))
                have R22b := Lib.hid (R22a.out.frame F17.out (by decide))
                have z67 := S7.out.size
                have K2 := Lib.hid (bookTexts2_any w2.heap.size w2.heap.size w7.heap.size lg17 lw17 tx tw (.slice An (P.next st ds ls).length cnn) k (P.next st ds ls) tv tu ts w17 BK17.out KT1b.out KT2b.out NE1.out ON17.out (fun i g hi hg e => by
                  have h1 := TU.out i g hi hg
                  have h2 := (VNU.out g e).1
                  omega) (by omega) (by omega) (Nat.le_refl _) (by omega))
                go_wp2_with fail
                refine K2.out.mono ?_
                rintro x w18 ⟨rfl, tx18, tw18, x18, b18, kt18, ku18, ne18, f18⟩
                have BK18 := Lib.hid b18
                have KT18 := Lib.hid kt18
                have KU18 := Lib.hid ku18
                have NE18 := Lib.hid ne18
                have F18 := Lib.hid f18
                clear b18 kt18 ku18 ne18 f18
                have KL18 := Lib.hid (KL17.out.frame F18.out (by decide) (by decide))
                have KV18 := Lib.hid (KU17.out.frame F18.out (by decide) (by decide))
                have OA18 := Lib.hid (show OwnL w18 _ (.slice Aa (P.movedTo P.sentTurn st ds ls dest text).length ca) _ from own_frame OA17.out F18.out (by decide))
                have OB18 := Lib.hid (show OwnL w18 _ (.slice Ab (P.movedTo (P.triedTurn now ds) st ds ls dest text).length cb) _ from own_frame OB17.out F18.out (by decide))
                have OF18 := Lib.hid (show OwnL w18 _ (.slice Af (P.movedTo (P.failTurn ds) st ds ls dest text).length cff) _ from own_frame OF17.out F18.out (by decide))
                have R20c := Lib.hid (R20b.out.frame F18.out (by decide))
                have R21c := Lib.hid (R21b.out.frame F18.out (by decide))
                have R22c := Lib.hid (R22b.out.frame F18.out (by decide))
                have QA := Lib.hid (addAt_own (N := 4 * k) (Q := fun g => Value.ownBlock (.slice Aa (P.movedTo P.sentTurn st ds ls dest text).length ca) ≠ some g) (fun i g hi hg e => by
                  have h1 := VU.out i g hi hg
                  have h2 := VAU.out g e
                  omega) (x := (.slice Al (P.legsOf ds routes text).length cl)) (fun g hg e => by
                  have h1 := (VLU.out g hg).2
                  have h2 := VAU.out g e
                  omega))
                have K3 := Lib.hid (bookLegs2_any w2.heap.size w2.heap.size w8.heap.size tx18 tw18 lg17 lw17 (.slice Aa (P.movedTo P.sentTurn st ds ls dest text).length ca) (4 * k + 1) (P.movedTo P.sentTurn st ds ls dest text) (addAt v (4 * k) (.slice Al (P.legsOf ds routes text).length cl)) (addAt u (4 * k) x17) (addAt l (4 * k) (P.legsOf ds routes text)) w18 BK18.out KL18.out KV18.out NE17.out OA18.out QA.out (by omega) (by omega) (Nat.le_refl _) (by omega))
                have c0 := fun i => R20c.out.cell i
                go_wp2_with fail
                refine K3.out.mono ?_
                rintro x w19 ⟨rfl, lg19, lw19, x19, b19, kl19, ku19, ne19, f19⟩
                have BK19 := Lib.hid b19
                have KL19 := Lib.hid kl19
                have KU19 := Lib.hid ku19
                have NE19 := Lib.hid ne19
                have F19 := Lib.hid f19
                clear b19 kl19 ku19 ne19 f19 c0
                have KT19 := Lib.hid (KT18.out.frame F19.out (by decide) (by decide))
                have KW19 := Lib.hid (KU18.out.frame F19.out (by decide) (by decide))
                have OB19 := Lib.hid (show OwnL w19 _ (.slice Ab (P.movedTo (P.triedTurn now ds) st ds ls dest text).length cb) _ from own_frame OB18.out F19.out (by decide))
                have OF19 := Lib.hid (show OwnL w19 _ (.slice Af (P.movedTo (P.failTurn ds) st ds ls dest text).length cff) _ from own_frame OF18.out F19.out (by decide))
                have R21d := Lib.hid (R21c.out.frame F19.out (by decide))
                have R22d := Lib.hid (R22c.out.frame F19.out (by decide))
                have QB := Lib.hid (addAt_own (N := 4 * k + 1) (Q := fun g => Value.ownBlock (.slice Ab (P.movedTo (P.triedTurn now ds) st ds ls dest text).length cb) ≠ some g) (addAt_own (N := 4 * k) (Q := fun g => Value.ownBlock (.slice Ab (P.movedTo (P.triedTurn now ds) st ds ls dest text).length cb) ≠ some g) (fun i g hi hg e => by
                  have h1 := VU.out i g hi hg
                  have h2 := VBU.out g e
                  omega) (x := (.slice Al (P.legsOf ds routes text).length cl)) (fun g hg e => by
                  have h1 := (VLU.out g hg).2
                  have h2 := VBU.out g e
                  omega)) (x := (.slice Aa (P.movedTo P.sentTurn st ds ls dest text).length ca)) (fun g hg e => PAB.out g hg e))
                have K4 := Lib.hid (bookLegs2_any w2.heap.size w2.heap.size w8.heap.size tx18 tw18 lg19 lw19 (.slice Ab (P.movedTo (P.triedTurn now ds) st ds ls dest text).length cb) (4 * k + 1 + 1) (P.movedTo (P.triedTurn now ds) st ds ls dest text) (addAt (addAt v (4 * k) (.slice Al (P.legsOf ds routes text).length cl)) (4 * k + 1) (.slice Aa (P.movedTo P.sentTurn st ds ls dest text).length ca)) (addAt (addAt u (4 * k) x17) (4 * k + 1) x19) (addAt (addAt l (4 * k) (P.legsOf ds routes text)) (4 * k + 1) (P.movedTo P.sentTurn st ds ls dest text)) w19 BK19.out KL19.out KU19.out NE19.out OB19.out QB.out (by omega) (by omega) (Nat.le_refl _) (by omega))
                have c0 := fun i => R21d.out.cell i
                go_wp2_with fail
                refine K4.out.mono ?_
                rintro x w20 ⟨rfl, lg20, lw20, x20, b20, kl20, ku20, ne20, f20⟩
                have BK20 := Lib.hid b20
                have KL20 := Lib.hid kl20
                have KU20 := Lib.hid ku20
                have NE20 := Lib.hid ne20
                have F20 := Lib.hid f20
                clear b20 kl20 ku20 ne20 f20 c0
                have KT20 := Lib.hid (KT19.out.frame F20.out (by decide) (by decide))
                have KW20 := Lib.hid (KW19.out.frame F20.out (by decide) (by decide))
                have OF20 := Lib.hid (show OwnL w20 _ (.slice Af (P.movedTo (P.failTurn ds) st ds ls dest text).length cff) _ from own_frame OF19.out F20.out (by decide))
                have R22e := Lib.hid (R22d.out.frame F20.out (by decide))
                have QF := Lib.hid (addAt_own (N := 4 * k + 1 + 1) (Q := fun g => Value.ownBlock (.slice Af (P.movedTo (P.failTurn ds) st ds ls dest text).length cff) ≠ some g) (addAt_own (N := 4 * k + 1) (Q := fun g => Value.ownBlock (.slice Af (P.movedTo (P.failTurn ds) st ds ls dest text).length cff) ≠ some g) (addAt_own (N := 4 * k) (Q := fun g => Value.ownBlock (.slice Af (P.movedTo (P.failTurn ds) st ds ls dest text).length cff) ≠ some g) (fun i g hi hg e => by
                  have h1 := VU.out i g hi hg
                  have h2 := VFU.out g e
                  omega) (x := (.slice Al (P.legsOf ds routes text).length cl)) (fun g hg e => by
                  have h1 := (VLU.out g hg).2
                  have h2 := VFU.out g e
                  omega)) (x := (.slice Aa (P.movedTo P.sentTurn st ds ls dest text).length ca)) (fun g hg e => PAF.out g hg e)) (x := (.slice Ab (P.movedTo (P.triedTurn now ds) st ds ls dest text).length cb)) (fun g hg e => PBF.out g hg e))
                have K5 := Lib.hid (bookLegs2_any w2.heap.size w2.heap.size w8.heap.size tx18 tw18 lg20 lw20 (.slice Af (P.movedTo (P.failTurn ds) st ds ls dest text).length cff) (4 * k + 1 + 1 + 1) (P.movedTo (P.failTurn ds) st ds ls dest text) (addAt (addAt (addAt v (4 * k) (.slice Al (P.legsOf ds routes text).length cl)) (4 * k + 1) (.slice Aa (P.movedTo P.sentTurn st ds ls dest text).length ca)) (4 * k + 1 + 1) (.slice Ab (P.movedTo (P.triedTurn now ds) st ds ls dest text).length cb)) (addAt (addAt (addAt u (4 * k) x17) (4 * k + 1) x19) (4 * k + 1 + 1) x20) (addAt (addAt (addAt l (4 * k) (P.legsOf ds routes text)) (4 * k + 1) (P.movedTo P.sentTurn st ds ls dest text)) (4 * k + 1 + 1) (P.movedTo (P.triedTurn now ds) st ds ls dest text)) w20 BK20.out KL20.out KU20.out NE20.out OF20.out QF.out (by omega) (by omega) (Nat.le_refl _) (by omega))
                have c0 := fun i => R22e.out.cell i
                go_wp2_with fail
                refine K5.out.mono ?_
                rintro x w21 ⟨rfl, lg21, lw21, x21, b21, kl21, ku21, ne21, f21⟩
                have BEND := Lib.hid (show BookI w2.heap.size (k + 1) w21 from ⟨tx18, tw18, lg21, lw21, _, _, _, _, _, _, b21, KT20.out.frame f21 (by decide) (by decide), KW20.out.frame f21 (by decide) (by decide), NE18.out, kl21, ku21, ne21⟩)
                have y16 := Nat.le_trans z12 S16.out.size
                have y17 := Nat.le_trans y16 F17.out.size
                have y18 := Nat.le_trans y17 F18.out.size
                have y19 := Nat.le_trans y18 F19.out.size
                have y20 := Nat.le_trans y19 F20.out.size
                have HEND := Lib.hid (show Below w2.heap.size w2 w21 from (((((H12.out.trans (S16.out.mono z12)).trans (F17.out.below y16)).trans (F18.out.below y17)).trans (F19.out.below y18)).trans (F20.out.below y19)).trans (f21.below y20))
                clear b21 kl21 ku21 ne21 f21 c0
                go_wp2
                go_roundw
                case rel => exact ⟨k + 1, by omega, by go_num, BEND.out, HEND.out⟩
                case measure => simp [intOf]; omega
          · have t3 : decide ((k : Int) < 2) = false := by simp; omega
            have BK2 := Lib.hid (show BookI w2.heap.size 2 wr from (show k = 2 by omega) ▸ BKr.out)
            have ALr := Lib.hid (AL.out wr)
            go_wp2_with fail
            refine ALr.out.mono ?_
            rintro x w5 ⟨rfl, hb5⟩
            have S5 := Lib.hid (show Stays wr w5 from hb5)
            clear hb5
            obtain ⟨tx, tw, lg, lw, tv, tu, v, u, ts, l, bb, kt1, kt2, -, kl1, kl2, -⟩ := BK2.out
            have z5 := S5.out.size
            have AP := Lib.hid (apart_any w2.heap.size w2.heap.size 2 8 tx tw lg lw tv tu v u ts l w5 (bb.stays S5.out) (kt1.stays S5.out) (kt2.stays S5.out) (kl1.stays S5.out) (kl2.stays S5.out) (by omega) (by omega) (by omega))
            clear bb kt1 kt2 kl1 kl2
            go_wp2_with fail
            refine AP.out.mono ?_
            rintro x w6 ⟨rfl, hb6⟩
            have HEND := Lib.hid (B2.out.trans (((HB2.out.trans (S5.out.mono zr)).trans hb6).mono B2.out.size))
            clear hb6
            go_wp2
            go_ret
            exact ⟨rfl, HEND.out⟩
      · have t2 : decide ((9000 : Int) < (text.size : Int)) = true := by simp; omega
        go_enter Tryz.func3, Tryz.ntmps3
        go_wp2_with fail
        refine LI'.out.mono ?_
        rintro x w2 ⟨rfl, hb2⟩
        have B2 := Lib.hid (BB.out.trans (hb2.mono BB.out.size))
        clear hb2 c0 c1
        go_wp2_with fail
        refine (AL.out _).mono ?_
        rintro x w3 ⟨rfl, hb3⟩
        have B3 := Lib.hid (bt'' B2.out hb3)
        clear hb3
        go_wp2
        go_ret
        exact ⟨rfl, B3.out⟩
    · have t1 : decide ((40 : Int) < (rn : Int)) = true := by simp; omega
      go_enter Tryz.func3, Tryz.ntmps3
      go_wp2_with fail
      refine LI'.out.mono ?_
      rintro x w2 ⟨rfl, hb2⟩
      have B2 := Lib.hid (BB.out.trans (hb2.mono BB.out.size))
      clear hb2 c0 c1
      go_wp2_with fail
      refine (AL.out _).mono ?_
      rintro x w3 ⟨rfl, hb3⟩
      have B3 := Lib.hid (bt'' B2.out hb3)
      clear hb3
      go_wp2
      go_ret
      exact ⟨rfl, B3.out⟩
end Go.Proofs.YtemjipongehjlaaGreat
