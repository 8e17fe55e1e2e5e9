/- What the reference's Failed returns. -/
import Derived.Test.YtemjipongehjlaaGreatL21
namespace Go.Proofs.YtemjipongehjlaaGreat
set_option linter.unusedVariables false
open Go.RowKit Go.BigFrame
namespace P
/-- As far as the destination that failed no leg is left out. -/
theorem failTo_at {ds : List Dest} {ls : List Leg} {dest : ByteArray} {kd : Nat} {d : Dest} (h : destAt ds dest = some kd) (hd : ds[kd]? = some d) : failTo ds d ls (kd + 1) = (true, ls) := by
  have hn := destAt_name h hd
  obtain ⟨hk, hp, hno⟩ := List.findIdx?_eq_some_iff_getElem.1 (show ds.findIdx? (fun l => l.name.data.toList == dest.data.toList) = some kd from h)
  have key : ∀ j, j ≤ kd → failTo ds d ls j = (false, ls) := by
    intro j
    induction j with
    | zero => intro _; rfl
    | succ j ih =>
      intro hj
      have hjd : j < ds.length := by omega
      rw [failTo_step (List.getElem?_eq_getElem hjd), ih (by omega)]
      have h1 := hno j (by omega)
      unfold failStep failLegs
      simp only [Bool.false_or, Bool.false_and, Bool.false_eq_true, if_false, Prod.mk.injEq, and_true]
      rw [hn]
      simpa [ByteArray.toList_eq] using h1
  rw [failTo_step hd, key kd (Nat.le_refl _)]
  unfold failStep failLegs
  simp
end P
set_option maxRecDepth 100000 in
set_option maxHeartbeats 8000000 in
theorem refFailed_any (cn cd cpre cfil ctr : ByteArray) (cf : Bool) (cpt crt : Int) (D : Option Addr) (n dc : Nat) (ds : List P.Dest) (id run tm st dn flt : Int) (raw : ByteArray) (A : Option Addr) (m cp : Nat) (ls : List P.Leg) (dest reply : ByteArray) (now : Int) (B : Nat) (w : World)
    (h : LegsAt w B A m ls) (hA : A = none → m = 0 ∧ cp = 0) (hd : DestsAt w B D n ds) (hB : B ≤ w.heap.size) (hm : m ≤ 1099511627776) (hn : n ≤ 1099511627776) (ht : ∀ l ∈ ls, (Lit.int .i64 l.tries).wf = true) (hr : reply.size ≤ maxLen) :
    Calls Tryz.prog 21 #[.agg #[.string cn, .bool cf, .int .i64 cpt, .string cd, .string cpre, .string cfil, .string ctr, .slice D n dc, .int .i64 crt], .agg #[.int .i64 id, .int .i64 run, .int .i64 tm, .int .i64 st, .int .i64 dn, .string raw, .int .i64 flt, .slice A m cp], .string dest, .string reply, .int .i64 now] w (GivesR w id run tm st (P.doneOf st ds ls (P.movedTo (P.failTurn ds) st ds ls dest reply) dest dn now) flt raw (P.movedTo (P.failTurn ds) st ds ls dest reply)) := by
  have hb := (((Below.refl w.heap.size w).alloc (Nat.le_refl _) (.cells #[.string cn, .bool cf, .int .i64 cpt, .string cd, .string cpre, .string cfil, .string ctr, .slice D n dc, .int .i64 crt] 24)).alloc (by simp) (.cells #[.int .i64 id, .int .i64 run, .int .i64 tm, .int .i64 st, .int .i64 dn, .string raw, .int .i64 flt, .slice A m cp] 28)).alloc (by simp; omega) (.cells #[.int .i64 0, .int .i64 0, .int .i64 0, .int .i64 0, .int .i64 0, .string ⟨#[]⟩, .int .i64 0, .slice none 0 0] 28)
  have k0 := ((Blk.new w 24 #[.string cn, .bool cf, .int .i64 cpt, .string cd, .string cpre, .string cfil, .string ctr, .slice D n dc, .int .i64 crt]).alloc (.cells #[.int .i64 id, .int .i64 run, .int .i64 tm, .int .i64 st, .int .i64 dn, .string raw, .int .i64 flt, .slice A m cp] 28)).alloc (.cells #[.int .i64 0, .int .i64 0, .int .i64 0, .int .i64 0, .int .i64 0, .string ⟨#[]⟩, .int .i64 0, .slice none 0 0] 28)
  have k1 := (Blk.new (w.alloc (.cells #[.string cn, .bool cf, .int .i64 cpt, .string cd, .string cpre, .string cfil, .string ctr, .slice D n dc, .int .i64 crt] 24)) 28 #[.int .i64 id, .int .i64 run, .int .i64 tm, .int .i64 st, .int .i64 dn, .string raw, .int .i64 flt, .slice A m cp]).alloc (.cells #[.int .i64 0, .int .i64 0, .int .i64 0, .int .i64 0, .int .i64 0, .string ⟨#[]⟩, .int .i64 0, .slice none 0 0] 28)
  have k2 := Blk.new ((w.alloc (.cells #[.string cn, .bool cf, .int .i64 cpt, .string cd, .string cpre, .string cfil, .string ctr, .slice D n dc, .int .i64 crt] 24)).alloc (.cells #[.int .i64 id, .int .i64 run, .int .i64 tm, .int .i64 st, .int .i64 dn, .string raw, .int .i64 flt, .slice A m cp] 28)) 28 #[.int .i64 0, .int .i64 0, .int .i64 0, .int .i64 0, .int .i64 0, .string ⟨#[]⟩, .int .i64 0, .slice none 0 0]
  rw [show (w.alloc (.cells #[.string cn, .bool cf, .int .i64 cpt, .string cd, .string cpre, .string cfil, .string ctr, .slice D n dc, .int .i64 crt] 24)).heap.size = w.heap.size + 1 from by simp] at k1
  rw [show ((w.alloc (.cells #[.string cn, .bool cf, .int .i64 cpt, .string cd, .string cpre, .string cfil, .string ctr, .slice D n dc, .int .i64 crt] 24)).alloc (.cells #[.int .i64 id, .int .i64 run, .int .i64 tm, .int .i64 st, .int .i64 dn, .string raw, .int .i64 flt, .slice A m cp] 28)).heap.size = w.heap.size + 2 from by simp] at k2
  have hz : (((w.alloc (.cells #[.string cn, .bool cf, .int .i64 cpt, .string cd, .string cpre, .string cfil, .string ctr, .slice D n dc, .int .i64 crt] 24)).alloc (.cells #[.int .i64 id, .int .i64 run, .int .i64 tm, .int .i64 st, .int .i64 dn, .string raw, .int .i64 flt, .slice A m cp] 28)).alloc (.cells #[.int .i64 0, .int .i64 0, .int .i64 0, .int .i64 0, .int .i64 0, .string ⟨#[]⟩, .int .i64 0, .slice none 0 0] 28)).heap.size = w.heap.size + 3 := by simp
  have NX := Lib.hid (isNext_any id run tm st dn flt raw A m cp ls cn cd cpre cfil ctr cf cpt crt D n dc ds dest B _ (h.below (hb.mono hB)) (hd.below (hb.mono hB)) (Nat.le_trans hB hb.size) (by unfold maxLen; omega) hn)
  have H := Lib.hid h
  have HDS := Lib.hid hd
  have HT := Lib.hid ht
  have HA := Lib.hid hA
  have HB := Lib.hid hb
  have K0 := Lib.hid k0
  have K1 := Lib.hid k1
  have K2 := Lib.hid k2
  have HZ := Lib.hid hz
  have c0 := fun i => k0.cell i
  have c1 := fun i => k1.cell i
  have c2 := fun i => k2.cell i
  clear h hA hd hb k0 k1 k2 hz ht
  go_enter Tryz.func21, Tryz.ntmps21
  go_wp2_with fail
  refine NX.out.mono ?_
  rintro x w2 ⟨rfl, hb2⟩
  have X0 := Lib.hid (K0.out.below hb2 K0.out.lt)
  have X1 := Lib.hid (K1.out.below hb2 K1.out.lt)
  have X2 := Lib.hid (K2.out.below hb2 K2.out.lt)
  have B2 := Lib.hid (HB.out.trans (hb2.mono HB.out.size))
  have Z2 : w.heap.size + 3 ≤ w2.heap.size := by have := hb2.size; rw [HZ.out] at this; exact this
  clear hb2 c0 c1 c2
  cases hh : P.hasS (P.next st ds ls) dest
  · have HN := Lib.hid (P.movedTo_no (F := P.failTurn ds) (reply := reply) hh)
    have HD := Lib.hid (P.doneOf_no (dn := dn) (now := now) (ls' := P.movedTo (P.failTurn ds) st ds ls dest reply) hh)
    have CR := copyRow_any id run tm st dn flt raw A m cp ls B w2 (H.out.below (B2.out.mono hB)) HA.out (Nat.le_trans hB B2.out.size) hm
    have CR := Lib.hid CR
    have c1 := fun i => X1.out.cell i
    clear hh
    go_wp2_with fail
    refine CR.out.mono ?_
    rintro x w3 ⟨v, rfl, hown, hb3⟩
    have Y2 := Lib.hid (X2.out.below hb3 X2.out.lt)
    have B3 := Lib.hid (bt'' B2.out hb3)
    obtain ⟨A3, c3, rfl, -⟩ := hown.reads
    have O3 := Lib.hid hown
    clear hb3 hown c1
    go_wp2_with (refine wpList_store_blk (cs' := #[.int .i64 id, .int .i64 run, .int .i64 tm, .int .i64 st, .int .i64 dn, .string raw, .int .i64 flt, .slice A3 ls.length c3]) rfl 28 (.tmp 10) (.tmp 21) rfl (w.heap.size + 2) (by rfl) (by rfl) Y2.out rfl (by kernel_rfl) (by simp [Value.oneCell']) ?_; intro w4 hk4 hg4; have d2 := fun i => hk4.cell i; have O4 := Lib.hid (O3.out.grownAt hg4 (fun e => by have := (World.ownsRow.lt O3.out _ e).1; omega)); have B4 := Lib.hid (below_gr B3.out hg4 (by omega)); clear hk4 hg4)
    rw [HD.out, HN.out]
    refine bodyPost_ret (v := .agg #[.int .i64 id, .int .i64 run, .int .i64 tm, .int .i64 st, .int .i64 dn, .string raw, .int .i64 flt, .slice A3 ls.length c3]) (by simp [results, Tryz.results21, go_sem, d2]) rfl ⟨_, rfl, O4.out.less (by omega), B4.out⟩
  · have HH := Lib.hid hh
    obtain ⟨hst, ⟨k, l, hk1, hk2, hl, ho, hkl⟩, kd, d, hd1, hd2, hdd, hkd⟩ := P.turned_key hh
    have HN := Lib.hid (show P.movedTo (P.failTurn ds) st ds ls dest reply = P.failed ds d (ls.set k { P.touch l reply with status := 4, due := 0 }) from by rw [P.movedTo_yes hh hk1 hl hd1 hdd, P.failTurn, List.set_set])
    have DN := Lib.hid (P.destAt_name hd1 hdd)
    have HDI := Lib.hid hd2
    have HDD := Lib.hid hdd
    have F0 := Lib.hid (P.failTo_at (ls := ls.set k { P.touch l reply with status := 4, due := 0 }) hd1 hdd)
    have hdl := HDS.out.len
    have HD := Lib.hid (P.doneOf_yes (ls' := P.movedTo (P.failTurn ds) st ds ls dest reply) (dn := dn) (now := now) hh)
    have TO := Lib.hid (touched_any id run tm st dn flt raw A m cp ls dest reply k l B w2 (H.out.below (B2.out.mono hB)) HA.out (Nat.le_trans hB B2.out.size) hm hk1 hk2 hl (HT.out l (List.mem_of_getElem? hl)) hr)
    have HLM := Lib.hid (show ls.length = m from H.out.len)
    have c1 := fun i => X1.out.cell i
    clear hh hst hk1 hk2 hl ho hd1 hd2 hdd
    go_wp2_with fail
    refine TO.out.mono ?_
    rintro x w3 ⟨v, rfl, hown, hb3⟩
    obtain ⟨g2, c3, hv, hgb, hgl⟩ := World.ownsRow.form hown (by rw [List.length_set]; omega)
    rw [List.length_set] at hv
    subst hv
    have Y1 := Lib.hid (X1.out.below hb3 X1.out.lt)
    have Y2 := Lib.hid (X2.out.below hb3 X2.out.lt)
    have Y0 := Lib.hid (X0.out.below hb3 X0.out.lt)
    have B3 := Lib.hid (bt'' B2.out hb3)
    have O3 := Lib.hid hown
    clear hb3 hown c1
    go_wp2_with (refine wpList_store_blk (cs' := #[.int .i64 id, .int .i64 run, .int .i64 tm, .int .i64 st, .int .i64 dn, .string raw, .int .i64 flt, .slice (some ⟨g2, 0, none⟩) ls.length c3]) rfl 28 (.tmp 6) (.tmp 27) rfl (w.heap.size + 1) (by rfl) (by rfl) Y1.out rfl (by kernel_rfl) (by simp [Value.oneCell']) ?_; intro w4 hk4 hg4; have Z1 := Lib.hid hk4; have Z0 := Lib.hid (Y0.out.grownAt hg4 (by omega)); have Z2' := Lib.hid (Y2.out.grownAt hg4 (by omega)); have O4 := Lib.hid (O3.out.grownAt hg4 (by simp [Value.ownBlock]; omega)); have B4 := Lib.hid (below_gr B3.out hg4 (by omega)); clear hk4 hg4)
    refine wp_region_genC 12 [] (PutI w4 w2.heap.size g2 ls.length c3 (ls.set k (P.touch l reply)) k (fun L => { P.touch l reply with status := if L 8 = true then 4 else (P.touch l reply).status, due := if L 11 = true then 0 else (P.touch l reply).due })) (by kernel_rfl) (by kernel_rfl) (PutI.start (l := P.touch l reply) O4.out (by rw [List.getElem?_set_self hkl]) rfl) ?_
    apply wpGenC_pure rfl
    · intro L vs wx hI hC hR hL K hK
      have c1 := fun i => (Z1.out.grownAt hI.gr (by omega)).cell i
      go_simp
      exact hK _ (hI.pure (by simp [updN]))
    intro KK hKK
    go_simp
    refine hKK _ ?_
    clear hKK KK
    apply wpGenC_pure rfl
    · intro L vs wx hI hC hR hL K hK
      have c1 := fun i => (Z1.out.grownAt hI.gr (by omega)).cell i
      go_simp
      exact hK _ (hI.pure (by simp [updN]))
    intro KK hKK
    go_simp
    refine hKK _ ?_
    clear hKK KK
    apply wpGenC_pure rfl
    · intro L vs wx hI hC hR hL K hK
      go_simp
      exact hK _ (hI.pure (by simp [updN]))
    intro KK hKK
    go_simp
    refine hKK _ ?_
    clear hKK KK
    apply wpGenC_pure rfl
    · intro L vs wx hI hC hR hL K hK
      go_simp
      exact hK _ (hI.pure (by simp [updN]))
    intro KK hKK
    go_simp
    refine hKK _ ?_
    clear hKK KK
    apply wpGenC_pure rfl
    · intro L vs wx hI hC hR hL K hK
      have c1 := fun i => (Z1.out.grownAt hI.gr (by omega)).cell i
      go_simp
      exact hK _ (hI.pure (by simp [updN]))
    intro KK hKK
    go_simp
    refine hKK _ ?_
    clear hKK KK
    apply wpGenC_pure rfl
    · intro L vs wx hI hC hR hL K hK
      go_simp
      exact hK _ (hI.pure (by simp [updN]))
    intro KK hKK
    go_simp
    refine hKK _ ?_
    clear hKK KK
    apply wpGenC_pure rfl
    · intro L vs wx hI hC hR hL K hK
      go_simp
      exact hK _ (hI.pure (by simp [updN]))
    intro KK hKK
    go_simp
    refine hKK _ ?_
    clear hKK KK
    apply wpGenC_pure rfl
    · intro L vs wx hI hC hR hL K hK
      go_simp
      exact hK _ (hI.pure (by simp [updN]))
    intro KK hKK
    go_simp
    refine hKK _ ?_
    clear hKK KK
    apply wpGenC_pure rfl
    · intro L vs wx hI hC hR hL K hK
      obtain ⟨e0, e1, e2, e3, e4, e5⟩ := hI.legIn (by rw [List.length_set]; exact hkl)
      have fz := fun j => hI.frz (by rw [List.length_set]) j
      go_simp
      exact hK _ (hI.put (j := 1) (by rw [List.length_set]) (by rw [List.length_set]; exact hkl) (by simp [updN, updS, P.Leg.cells]) (by omega))
    intro KK hKK
    go_simp
    refine hKK _ ?_
    clear hKK KK
    apply wpGenC_pure rfl
    · intro L vs wx hI hC hR hL K hK
      go_simp
      exact hK _ (hI.pure (by simp [updN]))
    intro KK hKK
    go_simp
    refine hKK _ ?_
    clear hKK KK
    apply wpGenC_pure rfl
    · intro L vs wx hI hC hR hL K hK
      go_simp
      exact hK _ (hI.pure (by simp [updN]))
    intro KK hKK
    go_simp
    refine hKK _ ?_
    clear hKK KK
    apply wpGenC_pure rfl
    · intro L vs wx hI hC hR hL K hK
      obtain ⟨e0, e1, e2, e3, e4, e5⟩ := hI.legIn (by rw [List.length_set]; exact hkl)
      have fz := fun j => hI.frz (by rw [List.length_set]) j
      go_simp
      exact hK _ (hI.put (j := 3) (by rw [List.length_set]) (by rw [List.length_set]; exact hkl) (by simp [updN, updS, P.Leg.cells]) (by omega))
    intro KK hKK
    go_simp
    refine hKK _ ?_
    clear hKK KK
    refine wpGenC_nil ?_
    intro vs w5 hI5
    have O5 := hI5.own
    simp only [decide_true, if_true, show (8 : Nat) < 12 from by omega, show (11 : Nat) < 12 from by omega, List.set_set] at O5
    have V1 := Lib.hid (Z1.out.grownAt hI5.gr (by omega))
    have V0 := Lib.hid (Z0.out.grownAt hI5.gr (by omega))
    have V2 := Lib.hid (Z2'.out.grownAt hI5.gr (by omega))
    have B5 := Lib.hid (below_gr B4.out hI5.gr (by omega))
    have OW5 := Lib.hid (show OwnL w5 w2.heap.size (.slice (some ⟨g2, 0, none⟩) ls.length c3) (ls.set k { P.touch l reply with status := 4, due := 0 }) from O5)
    clear hI5 O5
    intro KK hKK
    simp only [List.drop_succ_cons, List.drop_nil]
    generalize hls1 : ls.set k { P.touch l reply with status := 4, due := 0 } = ls1 at *
    have L1 := Lib.hid (show ls1.length = ls.length from by rw [← hls1, List.length_set])
    clear hls1
    have c0 := fun i => V0.out.cell i
    have AT := at_any cn cd cpre cfil ctr cf cpt crt D n dc ds dest B w5 (HDS.out.below (B5.out.mono hB)) (Nat.le_trans hB B5.out.size) (by unfold maxLen; omega)
    rw [HDI.out] at AT
    have AT := Lib.hid AT
    go_wp2_with fail
    refine AT.out.mono ?_
    rintro x w6 ⟨rfl, hb6⟩
    have U0 := Lib.hid (V0.out.below hb6 V0.out.lt)
    have U1 := Lib.hid (V1.out.below hb6 V1.out.lt)
    have U2 := Lib.hid (V2.out.below hb6 V2.out.lt)
    have B6 := Lib.hid (bt'' B5.out hb6)
    have O6 := Lib.hid (OW5.out.below hb6 (Nat.le_refl _))
    clear hb6 c0
    go_wp2_with fail
    go_loopw [13] (fun x wr => ∃ (j : Nat) (cur : List P.Leg), kd + 1 ≤ j ∧ j ≤ n ∧ x = .int .i64 j ∧ P.failTo ds d ls1 j = (true, cur) ∧ cur.length = ls.length ∧ OwnL wr w2.heap.size (.slice (some ⟨g2, 0, none⟩) ls.length c3) cur ∧ w6.grownBy wr (some g2)) (fun x _ => n - (intOf x).toNat)
    case atStart => exact ⟨kd + 1, ls1, by omega, by omega, by go_num, F0.out, L1.out, O6.out, grown_refl _ _⟩
    case round =>
      obtain ⟨j, cur, hjk, hjn, rfl, hft, hcl, hown, hgr⟩ := hrel
      have FT := Lib.hid hft
      have LCr := Lib.hid hcl
      have OWr := Lib.hid hown
      have GRr := Lib.hid hgr
      have K0r := Lib.hid (U0.out.grownAt hgr (by omega))
      have K1r := Lib.hid (U1.out.grownAt hgr (by omega))
      have K2r := Lib.hid (U2.out.grownAt hgr (by omega))
      have Br := Lib.hid (below_gr B6.out hgr (by omega))
      have zr := hgr.size
      clear hft hcl hown hgr
      by_cases hlt : j < n
      · have t1 : decide ((j : Int) < (n : Int)) = true := by simp; omega
        have DSTr := Lib.hid ((HDS.out.below (Br.out.mono hB)).more (Nat.le_trans hB Br.out.size))
        have LEGr := Lib.hid (OWr.out.legsAt LCr.out)
        obtain ⟨ad, e, rfl, heb, hek, hec⟩ := DSTr.out.in_ hlt
        obtain ⟨ad2, d2, ee, hdb2, hdk2, hdc2⟩ := DSTr.out.in_ (k := kd) (by omega)
        cases ee
        obtain rfl : d2 = d := Option.some.inj (hdk2.symm.trans HDD.out)
        have HEB := Lib.hid heb
        have HEC := Lib.hid hec
        have HDB := Lib.hid hdb2
        have HDC := Lib.hid hdc2
        have FS := Lib.hid (show P.failTo ds d2 ls1 (j + 1) = (true, P.failLegs (true && (e.chain == d2.chain)) cur e.name) from by rw [P.failTo_step hek, FT.out]; rfl)
        have hln2 : ls.length ≤ 1099511627776 := by have := HLM.out; omega
        have hcn : cur.length ≤ ls.length := by have := LCr.out; omega
        have hcn2 : ls.length ≤ cur.length := by have := LCr.out; omega
        have key := P.failLegs_key true (e.chain == d2.chain) cur e.name
        clear heb hek hec hdb2 hdk2 hdc2
        have c0 := fun i => K0r.out.cell i
        have c1 := fun i => K1r.out.cell i
        go_wp2_with fail
        rcases key with ⟨hx, _⟩ | ⟨_, hc, hF⟩ | ⟨_, hc, hI, hF⟩ | ⟨i, l2, _, hc, hI, hi, hl2, (⟨ho, hF⟩ | ⟨ho, hF⟩)⟩
        · cases hx
        · have HF := Lib.hid hF
          clear hF
          have LG := Lib.hid (fun x : Ext wr => refLeg_any id run tm st dn flt raw (some ⟨g2, 0, none⟩) ls.length c3 cur e.name x.wd.heap.size x.wd ((LEGr.out.below x.hb).more x.hb.size) (Nat.le_refl _) (by unfold maxLen; omega))
          have cellC : ∀ x : Ext wr, ∀ i, x.wd.cell? ⟨w.heap.size, i, none⟩ = (#[.string cn, .bool cf, .int .i64 cpt, .string cd, .string cpre, .string cfil, .string ctr, .slice (some ad) n dc, .int .i64 crt] : Array Value)[i]? := fun x i => by rw [x.cell K0r.out.lt, K0r.out.cell]
          have cellR : ∀ x : Ext wr, ∀ i, x.wd.cell? ⟨w.heap.size + 1, i, none⟩ = (#[.int .i64 id, .int .i64 run, .int .i64 tm, .int .i64 st, .int .i64 dn, .string raw, .int .i64 flt, .slice (some ⟨g2, 0, none⟩) ls.length c3] : Array Value)[i]? := fun x i => by rw [x.cell K1r.out.lt, K1r.out.cell]
          have cellE : ∀ x : Ext wr, x.wd.cell? (ad.add (j * 9)) = some (.string e.name) := fun x => by rw [x.cell HEB.out, HEC.out.c0]
          clear c0 c1
          refine wp_region_ext (by kernel_rfl) (by kernel_rfl) ?_
          repeat (first | go_big_quiet_step ((go_at_call 40; exact Ext.calls _ (LG.out _))) | quiet_step ((go_at_call 40; exact Ext.calls _ (LG.out _))))
          refine wpQuiet_nil ?_
          intro w7 hb7
          have S7 := Lib.hid (show Stays wr w7 from hb7)
          clear hb7 cellC cellR cellE LG
          have K07 := Lib.hid (K0r.out.stays S7.out)
          have K17 := Lib.hid (K1r.out.stays S7.out)
          have O7 := Lib.hid (OWr.out.stays S7.out)
          have z7 := S7.out.size
          have cellC : ∀ x : Ext w7, ∀ i, x.wd.cell? ⟨w.heap.size, i, none⟩ = (#[.string cn, .bool cf, .int .i64 cpt, .string cd, .string cpre, .string cfil, .string ctr, .slice (some ad) n dc, .int .i64 crt] : Array Value)[i]? := fun x i => by rw [x.cell K07.out.lt, K07.out.cell]
          have cellR : ∀ x : Ext w7, ∀ i, x.wd.cell? ⟨w.heap.size + 1, i, none⟩ = (#[.int .i64 id, .int .i64 run, .int .i64 tm, .int .i64 st, .int .i64 dn, .string raw, .int .i64 flt, .slice (some ⟨g2, 0, none⟩) ls.length c3] : Array Value)[i]? := fun x i => by rw [x.cell K17.out.lt, K17.out.cell]
          have cellE : ∀ x : Ext w7, x.wd.cell? ⟨(ad.add (j * 9)).block, (ad.add (j * 9)).off + 1, none⟩ = some (.int .i64 e.chain) := fun x => by rw [x.cell (p := ⟨(ad.add (j * 9)).block, _, none⟩) (Nat.lt_of_lt_of_le HEB.out z7), (HEC.out.keep S7.out HEB.out).c1]
          have cellD : ∀ x : Ext w7, x.wd.cell? ⟨(ad.add (kd * 9)).block, (ad.add (kd * 9)).off + 1, none⟩ = some (.int .i64 d2.chain) := fun x => by rw [x.cell (p := ⟨(ad.add (kd * 9)).block, _, none⟩) (Nat.lt_of_lt_of_le HDB.out z7), (HDC.out.keep S7.out HDB.out).c1]
          go_wp2_with fail
          refine wp_region_ext (by kernel_rfl) (by kernel_rfl) ?_
          repeat (first | go_big_quiet_step (fail) | quiet_step (fail))
          refine wpQuiet_nil ?_
          intro w8 hb8
          have S8 := Lib.hid (show Stays w7 w8 from hb8)
          clear hb8 cellC cellR cellE cellD
          have G8 := Lib.hid (GRr.out.trans ((S7.out.trans S8.out).grown _))
          have O8 := Lib.hid (O7.out.stays S8.out)
          have FN := Lib.hid (show P.failTo ds d2 ls1 (j + 1) = (true, cur) from by rw [FS.out, HF.out])
          go_wp2
          go_roundw
          case rel => exact ⟨j + 1, cur, by omega, by omega, by go_num, FN.out, LCr.out, O8.out, G8.out⟩
          case measure => simp [intOf]; omega
        · have HF := Lib.hid hF
          have HI := Lib.hid hI
          clear hF hI
          have LG := Lib.hid (fun x : Ext wr => refLeg_any id run tm st dn flt raw (some ⟨g2, 0, none⟩) ls.length c3 cur e.name x.wd.heap.size x.wd ((LEGr.out.below x.hb).more x.hb.size) (Nat.le_refl _) (by unfold maxLen; omega))
          rw [HI.out] at LG
          have cellC : ∀ x : Ext wr, ∀ i, x.wd.cell? ⟨w.heap.size, i, none⟩ = (#[.string cn, .bool cf, .int .i64 cpt, .string cd, .string cpre, .string cfil, .string ctr, .slice (some ad) n dc, .int .i64 crt] : Array Value)[i]? := fun x i => by rw [x.cell K0r.out.lt, K0r.out.cell]
          have cellR : ∀ x : Ext wr, ∀ i, x.wd.cell? ⟨w.heap.size + 1, i, none⟩ = (#[.int .i64 id, .int .i64 run, .int .i64 tm, .int .i64 st, .int .i64 dn, .string raw, .int .i64 flt, .slice (some ⟨g2, 0, none⟩) ls.length c3] : Array Value)[i]? := fun x i => by rw [x.cell K1r.out.lt, K1r.out.cell]
          have cellE : ∀ x : Ext wr, x.wd.cell? (ad.add (j * 9)) = some (.string e.name) := fun x => by rw [x.cell HEB.out, HEC.out.c0]
          clear c0 c1
          refine wp_region_ext (by kernel_rfl) (by kernel_rfl) ?_
          repeat (first | go_big_quiet_step ((go_at_call 40; exact Ext.calls _ (LG.out _))) | quiet_step ((go_at_call 40; exact Ext.calls _ (LG.out _))))
          refine wpQuiet_nil ?_
          intro w7 hb7
          have S7 := Lib.hid (show Stays wr w7 from hb7)
          clear hb7 cellC cellR cellE LG
          have K07 := Lib.hid (K0r.out.stays S7.out)
          have K17 := Lib.hid (K1r.out.stays S7.out)
          have O7 := Lib.hid (OWr.out.stays S7.out)
          have z7 := S7.out.size
          have OP := Lib.hid (fun x : Ext w7 => refOpen_any id run tm st dn flt raw (some ⟨g2, 0, none⟩) ls.length c3 cur (-1) x.wd.heap.size x.wd (((O7.out.legsAt LCr.out).below x.hb).more x.hb.size) (Nat.le_refl _) (by unfold maxLen; omega) (by omega) (by omega))
          rw [P.openI_neg (by omega)] at OP
          have cellC : ∀ x : Ext w7, ∀ i, x.wd.cell? ⟨w.heap.size, i, none⟩ = (#[.string cn, .bool cf, .int .i64 cpt, .string cd, .string cpre, .string cfil, .string ctr, .slice (some ad) n dc, .int .i64 crt] : Array Value)[i]? := fun x i => by rw [x.cell K07.out.lt, K07.out.cell]
          have cellR : ∀ x : Ext w7, ∀ i, x.wd.cell? ⟨w.heap.size + 1, i, none⟩ = (#[.int .i64 id, .int .i64 run, .int .i64 tm, .int .i64 st, .int .i64 dn, .string raw, .int .i64 flt, .slice (some ⟨g2, 0, none⟩) ls.length c3] : Array Value)[i]? := fun x i => by rw [x.cell K17.out.lt, K17.out.cell]
          have cellE : ∀ x : Ext w7, x.wd.cell? ⟨(ad.add (j * 9)).block, (ad.add (j * 9)).off + 1, none⟩ = some (.int .i64 e.chain) := fun x => by rw [x.cell (p := ⟨(ad.add (j * 9)).block, _, none⟩) (Nat.lt_of_lt_of_le HEB.out z7), (HEC.out.keep S7.out HEB.out).c1]
          have cellD : ∀ x : Ext w7, x.wd.cell? ⟨(ad.add (kd * 9)).block, (ad.add (kd * 9)).off + 1, none⟩ = some (.int .i64 d2.chain) := fun x => by rw [x.cell (p := ⟨(ad.add (kd * 9)).block, _, none⟩) (Nat.lt_of_lt_of_le HDB.out z7), (HDC.out.keep S7.out HDB.out).c1]
          go_wp2_with fail
          refine wp_region_ext (by kernel_rfl) (by kernel_rfl) ?_
          repeat (first | go_big_quiet_step ((go_at_call 39; exact Ext.calls _ (OP.out _))) | quiet_step ((go_at_call 39; exact Ext.calls _ (OP.out _))))
          refine wpQuiet_nil ?_
          intro w8 hb8
          have S8 := Lib.hid (show Stays w7 w8 from hb8)
          clear hb8 cellC cellR cellE cellD
          have G8 := Lib.hid (GRr.out.trans ((S7.out.trans S8.out).grown _))
          have O8 := Lib.hid (O7.out.stays S8.out)
          have FN := Lib.hid (show P.failTo ds d2 ls1 (j + 1) = (true, cur) from by rw [FS.out, HF.out])
          go_wp2
          go_roundw
          case rel => exact ⟨j + 1, cur, by omega, by omega, by go_num, FN.out, LCr.out, O8.out, G8.out⟩
          case measure => simp [intOf]; omega
        · have HF := Lib.hid hF
          have HI := Lib.hid hI
          have HL2 := Lib.hid hl2
          have HO := Lib.hid ho
          clear hF hI hl2 ho
          have LG := Lib.hid (fun x : Ext wr => refLeg_any id run tm st dn flt raw (some ⟨g2, 0, none⟩) ls.length c3 cur e.name x.wd.heap.size x.wd ((LEGr.out.below x.hb).more x.hb.size) (Nat.le_refl _) (by unfold maxLen; omega))
          rw [HI.out] at LG
          have cellC : ∀ x : Ext wr, ∀ i, x.wd.cell? ⟨w.heap.size, i, none⟩ = (#[.string cn, .bool cf, .int .i64 cpt, .string cd, .string cpre, .string cfil, .string ctr, .slice (some ad) n dc, .int .i64 crt] : Array Value)[i]? := fun x i => by rw [x.cell K0r.out.lt, K0r.out.cell]
          have cellR : ∀ x : Ext wr, ∀ i, x.wd.cell? ⟨w.heap.size + 1, i, none⟩ = (#[.int .i64 id, .int .i64 run, .int .i64 tm, .int .i64 st, .int .i64 dn, .string raw, .int .i64 flt, .slice (some ⟨g2, 0, none⟩) ls.length c3] : Array Value)[i]? := fun x i => by rw [x.cell K1r.out.lt, K1r.out.cell]
          have cellE : ∀ x : Ext wr, x.wd.cell? (ad.add (j * 9)) = some (.string e.name) := fun x => by rw [x.cell HEB.out, HEC.out.c0]
          clear c0 c1
          refine wp_region_ext (by kernel_rfl) (by kernel_rfl) ?_
          repeat (first | go_big_quiet_step ((go_at_call 40; exact Ext.calls _ (LG.out _))) | quiet_step ((go_at_call 40; exact Ext.calls _ (LG.out _))))
          refine wpQuiet_nil ?_
          intro w7 hb7
          have S7 := Lib.hid (show Stays wr w7 from hb7)
          clear hb7 cellC cellR cellE LG
          have K07 := Lib.hid (K0r.out.stays S7.out)
          have K17 := Lib.hid (K1r.out.stays S7.out)
          have O7 := Lib.hid (OWr.out.stays S7.out)
          have z7 := S7.out.size
          have OP := Lib.hid (fun x : Ext w7 => refOpen_any id run tm st dn flt raw (some ⟨g2, 0, none⟩) ls.length c3 cur (i : Int) x.wd.heap.size x.wd (((O7.out.legsAt LCr.out).below x.hb).more x.hb.size) (Nat.le_refl _) (by unfold maxLen; omega) (by omega) (by omega))
          rw [P.openI_at HL2.out, HO.out] at OP
          have cellC : ∀ x : Ext w7, ∀ i, x.wd.cell? ⟨w.heap.size, i, none⟩ = (#[.string cn, .bool cf, .int .i64 cpt, .string cd, .string cpre, .string cfil, .string ctr, .slice (some ad) n dc, .int .i64 crt] : Array Value)[i]? := fun x i => by rw [x.cell K07.out.lt, K07.out.cell]
          have cellR : ∀ x : Ext w7, ∀ i, x.wd.cell? ⟨w.heap.size + 1, i, none⟩ = (#[.int .i64 id, .int .i64 run, .int .i64 tm, .int .i64 st, .int .i64 dn, .string raw, .int .i64 flt, .slice (some ⟨g2, 0, none⟩) ls.length c3] : Array Value)[i]? := fun x i => by rw [x.cell K17.out.lt, K17.out.cell]
          have cellE : ∀ x : Ext w7, x.wd.cell? ⟨(ad.add (j * 9)).block, (ad.add (j * 9)).off + 1, none⟩ = some (.int .i64 e.chain) := fun x => by rw [x.cell (p := ⟨(ad.add (j * 9)).block, _, none⟩) (Nat.lt_of_lt_of_le HEB.out z7), (HEC.out.keep S7.out HEB.out).c1]
          have cellD : ∀ x : Ext w7, x.wd.cell? ⟨(ad.add (kd * 9)).block, (ad.add (kd * 9)).off + 1, none⟩ = some (.int .i64 d2.chain) := fun x => by rw [x.cell (p := ⟨(ad.add (kd * 9)).block, _, none⟩) (Nat.lt_of_lt_of_le HDB.out z7), (HDC.out.keep S7.out HDB.out).c1]
          go_wp2_with fail
          refine wp_region_ext (by kernel_rfl) (by kernel_rfl) ?_
          repeat (first | go_big_quiet_step ((go_at_call 39; exact Ext.calls _ (OP.out _))) | quiet_step ((go_at_call 39; exact Ext.calls _ (OP.out _))))
          refine wpQuiet_nil ?_
          intro w8 hb8
          have S8 := Lib.hid (show Stays w7 w8 from hb8)
          clear hb8 cellC cellR cellE cellD
          have G8 := Lib.hid (GRr.out.trans ((S7.out.trans S8.out).grown _))
          have O8 := Lib.hid (O7.out.stays S8.out)
          have FN := Lib.hid (show P.failTo ds d2 ls1 (j + 1) = (true, cur) from by rw [FS.out, HF.out])
          go_wp2
          go_roundw
          case rel => exact ⟨j + 1, cur, by omega, by omega, by go_num, FN.out, LCr.out, O8.out, G8.out⟩
          case measure => simp [intOf]; omega
        · have HF := Lib.hid hF
          have HI := Lib.hid hI
          have HL2 := Lib.hid hl2
          have HO := Lib.hid ho
          clear hF hI hl2 ho
          have LG := Lib.hid (fun x : Ext wr => refLeg_any id run tm st dn flt raw (some ⟨g2, 0, none⟩) ls.length c3 cur e.name x.wd.heap.size x.wd ((LEGr.out.below x.hb).more x.hb.size) (Nat.le_refl _) (by unfold maxLen; omega))
          rw [HI.out] at LG
          have cellC : ∀ x : Ext wr, ∀ i, x.wd.cell? ⟨w.heap.size, i, none⟩ = (#[.string cn, .bool cf, .int .i64 cpt, .string cd, .string cpre, .string cfil, .string ctr, .slice (some ad) n dc, .int .i64 crt] : Array Value)[i]? := fun x i => by rw [x.cell K0r.out.lt, K0r.out.cell]
          have cellR : ∀ x : Ext wr, ∀ i, x.wd.cell? ⟨w.heap.size + 1, i, none⟩ = (#[.int .i64 id, .int .i64 run, .int .i64 tm, .int .i64 st, .int .i64 dn, .string raw, .int .i64 flt, .slice (some ⟨g2, 0, none⟩) ls.length c3] : Array Value)[i]? := fun x i => by rw [x.cell K1r.out.lt, K1r.out.cell]
          have cellE : ∀ x : Ext wr, x.wd.cell? (ad.add (j * 9)) = some (.string e.name) := fun x => by rw [x.cell HEB.out, HEC.out.c0]
          clear c0 c1
          refine wp_region_ext (by kernel_rfl) (by kernel_rfl) ?_
          repeat (first | go_big_quiet_step ((go_at_call 40; exact Ext.calls _ (LG.out _))) | quiet_step ((go_at_call 40; exact Ext.calls _ (LG.out _))))
          refine wpQuiet_nil ?_
          intro w7 hb7
          have S7 := Lib.hid (show Stays wr w7 from hb7)
          clear hb7 cellC cellR cellE LG
          have K07 := Lib.hid (K0r.out.stays S7.out)
          have K17 := Lib.hid (K1r.out.stays S7.out)
          have O7 := Lib.hid (OWr.out.stays S7.out)
          have z7 := S7.out.size
          have OP := Lib.hid (fun x : Ext w7 => refOpen_any id run tm st dn flt raw (some ⟨g2, 0, none⟩) ls.length c3 cur (i : Int) x.wd.heap.size x.wd (((O7.out.legsAt LCr.out).below x.hb).more x.hb.size) (Nat.le_refl _) (by unfold maxLen; omega) (by omega) (by omega))
          rw [P.openI_at HL2.out, HO.out] at OP
          have cellC : ∀ x : Ext w7, ∀ i, x.wd.cell? ⟨w.heap.size, i, none⟩ = (#[.string cn, .bool cf, .int .i64 cpt, .string cd, .string cpre, .string cfil, .string ctr, .slice (some ad) n dc, .int .i64 crt] : Array Value)[i]? := fun x i => by rw [x.cell K07.out.lt, K07.out.cell]
          have cellR : ∀ x : Ext w7, ∀ i, x.wd.cell? ⟨w.heap.size + 1, i, none⟩ = (#[.int .i64 id, .int .i64 run, .int .i64 tm, .int .i64 st, .int .i64 dn, .string raw, .int .i64 flt, .slice (some ⟨g2, 0, none⟩) ls.length c3] : Array Value)[i]? := fun x i => by rw [x.cell K17.out.lt, K17.out.cell]
          have cellE : ∀ x : Ext w7, x.wd.cell? ⟨(ad.add (j * 9)).block, (ad.add (j * 9)).off + 1, none⟩ = some (.int .i64 e.chain) := fun x => by rw [x.cell (p := ⟨(ad.add (j * 9)).block, _, none⟩) (Nat.lt_of_lt_of_le HEB.out z7), (HEC.out.keep S7.out HEB.out).c1]
          have cellD : ∀ x : Ext w7, x.wd.cell? ⟨(ad.add (kd * 9)).block, (ad.add (kd * 9)).off + 1, none⟩ = some (.int .i64 d2.chain) := fun x => by rw [x.cell (p := ⟨(ad.add (kd * 9)).block, _, none⟩) (Nat.lt_of_lt_of_le HDB.out z7), (HDC.out.keep S7.out HDB.out).c1]
          go_wp2_with fail
          refine wp_region_ext (by kernel_rfl) (by kernel_rfl) ?_
          repeat (first | go_big_quiet_step ((go_at_call 39; exact Ext.calls _ (OP.out _))) | quiet_step ((go_at_call 39; exact Ext.calls _ (OP.out _))))
          refine wpQuiet_nil ?_
          intro w8 hb8
          have S8 := Lib.hid (show Stays w7 w8 from hb8)
          clear hb8 cellC cellR cellE cellD
          have G8 := Lib.hid (GRr.out.trans ((S7.out.trans S8.out).grown _))
          have O8 := Lib.hid (O7.out.stays S8.out)
          have FN := Lib.hid (show P.failTo ds d2 ls1 (j + 1) = (true, cur.set i (P.leftOut l2)) from by rw [FS.out, HF.out])
          have hi2 : i < ls.length := by omega
          have K18 := Lib.hid (K17.out.stays S8.out)
          go_wp2_with fail
          refine wp_region_genC 18 [] (PutI w8 w2.heap.size g2 ls.length c3 cur i (fun L => { l2 with status := if L 11 = true then 0 else l2.status, payload := if L 14 = true then ⟨#[]⟩ else l2.payload, due := if L 17 = true then 0 else l2.due })) (by kernel_rfl) (by kernel_rfl) (PutI.start (l := l2) O8.out HL2.out rfl) ?_
          apply wpGenC_pure rfl
          · intro L vs wx hI hC hR hL K hK
            go_simp
            exact hK _ (hI.pure (by simp [updN]))
          intro KK hKK
          go_simp
          refine hKK _ ?_
          clear hKK KK
          apply wpGenC_pure rfl
          · intro L vs wx hI hC hR hL K hK
            have c1 := fun i => (K18.out.grownAt hI.gr (by omega)).cell i
            go_simp
            exact hK _ (hI.pure (by simp [updN]))
          intro KK hKK
          go_simp
          refine hKK _ ?_
          clear hKK KK
          apply wpGenC_pure rfl
          · intro L vs wx hI hC hR hL K hK
            go_simp
            exact hK _ (hI.pure (by simp [updN]))
          intro KK hKK
          go_simp
          refine hKK _ ?_
          clear hKK KK
          apply wpGenC_pure rfl
          · intro L vs wx hI hC hR hL K hK
            go_simp
            exact hK _ (hI.pure (by simp [updN]))
          intro KK hKK
          go_simp
          refine hKK _ ?_
          clear hKK KK
          apply wpGenC_pure rfl
          · intro L vs wx hI hC hR hL K hK
            have c1 := fun i => (K18.out.grownAt hI.gr (by omega)).cell i
            go_simp
            exact hK _ (hI.pure (by simp [updN]))
          intro KK hKK
          go_simp
          refine hKK _ ?_
          clear hKK KK
          apply wpGenC_pure rfl
          · intro L vs wx hI hC hR hL K hK
            go_simp
            exact hK _ (hI.pure (by simp [updN]))
          intro KK hKK
          go_simp
          refine hKK _ ?_
          clear hKK KK
          apply wpGenC_pure rfl
          · intro L vs wx hI hC hR hL K hK
            go_simp
            exact hK _ (hI.pure (by simp [updN]))
          intro KK hKK
          go_simp
          refine hKK _ ?_
          clear hKK KK
          apply wpGenC_pure rfl
          · intro L vs wx hI hC hR hL K hK
            have c1 := fun i => (K18.out.grownAt hI.gr (by omega)).cell i
            go_simp
            exact hK _ (hI.pure (by simp [updN]))
          intro KK hKK
          go_simp
          refine hKK _ ?_
          clear hKK KK
          apply wpGenC_pure rfl
          · intro L vs wx hI hC hR hL K hK
            go_simp
            exact hK _ (hI.pure (by simp [updN]))
          intro KK hKK
          go_simp
          refine hKK _ ?_
          clear hKK KK
          apply wpGenC_pure rfl
          · intro L vs wx hI hC hR hL K hK
            go_simp
            exact hK _ (hI.pure (by simp [updN]))
          intro KK hKK
          go_simp
          refine hKK _ ?_
          clear hKK KK
          apply wpGenC_pure rfl
          · intro L vs wx hI hC hR hL K hK
            go_simp
            exact hK _ (hI.pure (by simp [updN]))
          intro KK hKK
          go_simp
          refine hKK _ ?_
          clear hKK KK
          apply wpGenC_pure rfl
          · intro L vs wx hI hC hR hL K hK
            obtain ⟨e0, e1, e2, e3, e4, e5⟩ := hI.legIn hi
            have fz := fun j => hI.frz LCr.out j
            go_simp
            exact hK _ (hI.put (j := 1) LCr.out hi (by simp [updN, updS, P.Leg.cells]) (by omega))
          intro KK hKK
          go_simp
          refine hKK _ ?_
          clear hKK KK
          apply wpGenC_pure rfl
          · intro L vs wx hI hC hR hL K hK
            go_simp
            exact hK _ (hI.pure (by simp [updN]))
          intro KK hKK
          go_simp
          refine hKK _ ?_
          clear hKK KK
          apply wpGenC_pure rfl
          · intro L vs wx hI hC hR hL K hK
            go_simp
            exact hK _ (hI.pure (by simp [updN]))
          intro KK hKK
          go_simp
          refine hKK _ ?_
          clear hKK KK
          apply wpGenC_pure rfl
          · intro L vs wx hI hC hR hL K hK
            obtain ⟨e0, e1, e2, e3, e4, e5⟩ := hI.legIn hi
            have fz := fun j => hI.frz LCr.out j
            go_simp
            exact hK _ (hI.put (j := 4) LCr.out hi (by simp [updN, updS, P.Leg.cells]) (by omega))
          intro KK hKK
          go_simp
          refine hKK _ ?_
          clear hKK KK
          apply wpGenC_pure rfl
          · intro L vs wx hI hC hR hL K hK
            go_simp
            exact hK _ (hI.pure (by simp [updN]))
          intro KK hKK
          go_simp
          refine hKK _ ?_
          clear hKK KK
          apply wpGenC_pure rfl
          · intro L vs wx hI hC hR hL K hK
            go_simp
            exact hK _ (hI.pure (by simp [updN]))
          intro KK hKK
          go_simp
          refine hKK _ ?_
          clear hKK KK
          apply wpGenC_pure rfl
          · intro L vs wx hI hC hR hL K hK
            obtain ⟨e0, e1, e2, e3, e4, e5⟩ := hI.legIn hi
            have fz := fun j => hI.frz LCr.out j
            go_simp
            exact hK _ (hI.put (j := 3) LCr.out hi (by simp [updN, updS, P.Leg.cells]) (by omega))
          intro KK hKK
          go_simp
          refine hKK _ ?_
          clear hKK KK
          refine wpGenC_nil ?_
          intro vs w9 hI9
          have O9 := hI9.own
          simp only [decide_true, if_true, show (11 : Nat) < 18 from by omega, show (14 : Nat) < 18 from by omega, show (17 : Nat) < 18 from by omega] at O9
          have OW9 := Lib.hid (show OwnL w9 w2.heap.size (.slice (some ⟨g2, 0, none⟩) ls.length c3) (cur.set i (P.leftOut l2)) from O9)
          have G9 := Lib.hid (G8.out.trans hI9.gr)
          clear hI9 O9
          intro KK hKK
          simp only [List.drop_succ_cons, List.drop_nil]
          go_wp2
          go_roundw
          case rel => exact ⟨j + 1, _, by omega, by omega, by go_num, FN.out, by rw [List.length_set]; exact LCr.out, OW9.out, G9.out⟩
          case measure => simp [intOf]; omega
      · have t1 : decide ((j : Int) < (n : Int)) = false := by simp; omega
        have LS := Lib.hid (show P.failed ds d ls1 = cur from by rw [← P.failTo_all (k := j) (by omega), FT.out])
        have c0 := fun i => K0r.out.cell i
        have c1 := fun i => K1r.out.cell i
        have FI := Lib.hid (finished_any id run tm st dn flt raw (some ⟨g2, 0, none⟩) ls.length c3 cur now wr.heap.size wr (OWr.out.legsAt LCr.out) (Nat.le_refl _) (by unfold maxLen; have := HLM.out; omega))
        go_wp2_with fail
        refine FI.out.mono ?_
        rintro x w7 ⟨rfl, hb7⟩
        have T2 := Lib.hid (K2r.out.below hb7 K2r.out.lt)
        have B7 := Lib.hid (bt'' Br.out hb7)
        have O7 := Lib.hid (OWr.out.below hb7 (Nat.le_refl _))
        clear hb7 c0 c1
        obtain ⟨dn2, hdn2⟩ : ∃ dn2, dn2 = P.doneAt st cur dn now := ⟨_, rfl⟩
        rw [← hdn2]
        have HM := Lib.hid (show P.movedTo (P.failTurn ds) st ds ls dest reply = cur from by rw [HN.out, LS.out])
        have HE := Lib.hid (show P.doneOf st ds ls (P.movedTo (P.failTurn ds) st ds ls dest reply) dest dn now = dn2 from by rw [HD.out, HM.out, hdn2])
        clear hdn2
        go_wp2_with (refine wpList_store_blk (cs' := #[.int .i64 id, .int .i64 run, .int .i64 tm, .int .i64 st, .int .i64 dn2, .string raw, .int .i64 flt, .slice (some ⟨g2, 0, none⟩) ls.length c3]) rfl 28 (.tmp 10) (.tmp 94) rfl (w.heap.size + 2) (by rfl) (by rfl) T2.out rfl (by kernel_rfl) (by simp [Value.oneCell']) ?_; intro w8 hk8 hg8; have d2' := fun i => hk8.cell i; have O8 := Lib.hid (O7.out.grownAt hg8 (by simp [Value.ownBlock]; omega)); have B8 := Lib.hid (below_gr B7.out hg8 (by omega)); clear hk8 hg8)
        rw [HE.out, HM.out]
        refine bodyPost_ret (v := .agg #[.int .i64 id, .int .i64 run, .int .i64 tm, .int .i64 st, .int .i64 dn2, .string raw, .int .i64 flt, .slice (some ⟨g2, 0, none⟩) ls.length c3]) (by simp [results, Tryz.results21, go_sem, d2']) rfl ⟨_, rfl, O8.out.less (by omega), B8.out⟩
end Go.Proofs.YtemjipongehjlaaGreat
