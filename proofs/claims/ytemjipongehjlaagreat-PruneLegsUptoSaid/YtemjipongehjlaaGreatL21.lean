/- What the reference's Sent returns. -/
import Derived.Test.YtemjipongehjlaaGreatL20
import Derived.Test.YtemjipongehjlaaGreatL13
namespace Go.Proofs.YtemjipongehjlaaGreat
set_option linter.unusedVariables false
open Go.RowKit Go.BigFrame
namespace P
theorem doneOf_no {state : Int} {ds : List Dest} {ls ls' : List Leg} {dest : ByteArray} {dn now : Int} (h : hasS (next state ds ls) dest = false) : doneOf state ds ls ls' dest dn now = dn := by unfold doneOf; rw [h]; rfl
theorem doneOf_yes {state : Int} {ds : List Dest} {ls ls' : List Leg} {dest : ByteArray} {dn now : Int} (h : hasS (next state ds ls) dest = true) : doneOf state ds ls ls' dest dn now = doneAt state ls' dn now := by unfold doneOf doneAt; rw [if_pos h]
end P
set_option maxRecDepth 100000 in
set_option maxHeartbeats 4000000 in
theorem refSent_any (cn cd cpre cfil ctr : ByteArray) (cf : Bool) (cpt crt : Int) (D : Option Addr) (n dc : Nat) (ds : List P.Dest) (id run tm st dn flt : Int) (raw : ByteArray) (A : Option Addr) (m cp : Nat) (ls : List P.Leg) (dest reply : ByteArray) (now : Int) (B : Nat) (w : World)
    (h : LegsAt w B A m ls) (hA : A = none → m = 0 ∧ cp = 0) (hd : DestsAt w B D n ds) (hB : B ≤ w.heap.size) (hm : m ≤ 1099511627776) (hn : n ≤ 1099511627776) (ht : ∀ l ∈ ls, (Lit.int .i64 l.tries).wf = true) (hr : reply.size ≤ maxLen) :
    Calls Tryz.prog 19 #[.agg #[.string cn, .bool cf, .int .i64 cpt, .string cd, .string cpre, .string cfil, .string ctr, .slice D n dc, .int .i64 crt], .agg #[.int .i64 id, .int .i64 run, .int .i64 tm, .int .i64 st, .int .i64 dn, .string raw, .int .i64 flt, .slice A m cp], .string dest, .string reply, .int .i64 now] w (GivesR w id run tm st (P.doneOf st ds ls (P.movedTo P.sentTurn st ds ls dest reply) dest dn now) flt raw (P.movedTo P.sentTurn st ds ls dest reply)) := by
  have hb := (((Below.refl w.heap.size w).alloc (Nat.le_refl _) (.cells #[.string cn, .bool cf, .int .i64 cpt, .string cd, .string cpre, .string cfil, .string ctr, .slice D n dc, .int .i64 crt] 24)).alloc (by simp) (.cells #[.int .i64 id, .int .i64 run, .int .i64 tm, .int .i64 st, .int .i64 dn, .string raw, .int .i64 flt, .slice A m cp] 28)).alloc (by simp; omega) (.cells #[.int .i64 0, .int .i64 0, .int .i64 0, .int .i64 0, .int .i64 0, .string ⟨#[]⟩, .int .i64 0, .slice none 0 0] 28)
  have k0 := ((Blk.new w 24 #[.string cn, .bool cf, .int .i64 cpt, .string cd, .string cpre, .string cfil, .string ctr, .slice D n dc, .int .i64 crt]).alloc (.cells #[.int .i64 id, .int .i64 run, .int .i64 tm, .int .i64 st, .int .i64 dn, .string raw, .int .i64 flt, .slice A m cp] 28)).alloc (.cells #[.int .i64 0, .int .i64 0, .int .i64 0, .int .i64 0, .int .i64 0, .string ⟨#[]⟩, .int .i64 0, .slice none 0 0] 28)
  have k1 := (Blk.new (w.alloc (.cells #[.string cn, .bool cf, .int .i64 cpt, .string cd, .string cpre, .string cfil, .string ctr, .slice D n dc, .int .i64 crt] 24)) 28 #[.int .i64 id, .int .i64 run, .int .i64 tm, .int .i64 st, .int .i64 dn, .string raw, .int .i64 flt, .slice A m cp]).alloc (.cells #[.int .i64 0, .int .i64 0, .int .i64 0, .int .i64 0, .int .i64 0, .string ⟨#[]⟩, .int .i64 0, .slice none 0 0] 28)
  have k2 := Blk.new ((w.alloc (.cells #[.string cn, .bool cf, .int .i64 cpt, .string cd, .string cpre, .string cfil, .string ctr, .slice D n dc, .int .i64 crt] 24)).alloc (.cells #[.int .i64 id, .int .i64 run, .int .i64 tm, .int .i64 st, .int .i64 dn, .string raw, .int .i64 flt, .slice A m cp] 28)) 28 #[.int .i64 0, .int .i64 0, .int .i64 0, .int .i64 0, .int .i64 0, .string ⟨#[]⟩, .int .i64 0, .slice none 0 0]
  rw [show (w.alloc (.cells #[.string cn, .bool cf, .int .i64 cpt, .string cd, .string cpre, .string cfil, .string ctr, .slice D n dc, .int .i64 crt] 24)).heap.size = w.heap.size + 1 from by simp] at k1
  rw [show ((w.alloc (.cells #[.string cn, .bool cf, .int .i64 cpt, .string cd, .string cpre, .string cfil, .string ctr, .slice D n dc, .int .i64 crt] 24)).alloc (.cells #[.int .i64 id, .int .i64 run, .int .i64 tm, .int .i64 st, .int .i64 dn, .string raw, .int .i64 flt, .slice A m cp] 28)).heap.size = w.heap.size + 2 from by simp] at k2
  have hz : (((w.alloc (.cells #[.string cn, .bool cf, .int .i64 cpt, .string cd, .string cpre, .string cfil, .string ctr, .slice D n dc, .int .i64 crt] 24)).alloc (.cells #[.int .i64 id, .int .i64 run, .int .i64 tm, .int .i64 st, .int .i64 dn, .string raw, .int .i64 flt, .slice A m cp] 28)).alloc (.cells #[.int .i64 0, .int .i64 0, .int .i64 0, .int .i64 0, .int .i64 0, .string ⟨#[]⟩, .int .i64 0, .slice none 0 0] 28)).heap.size = w.heap.size + 3 := by simp
  have NX := Lib.hid (isNext_any id run tm st dn flt raw A m cp ls cn cd cpre cfil ctr cf cpt crt D n dc ds dest B _ (h.below (hb.mono hB)) (hd.below (hb.mono hB)) (Nat.le_trans hB hb.size) (by unfold maxLen; omega) hn)
  have H := Lib.hid h
  have HT := Lib.hid ht
  have HA := Lib.hid hA
  have HB := Lib.hid hb
  have K0 := Lib.hid k0
  have K1 := Lib.hid k1
  have K2 := Lib.hid k2
  have HZ := Lib.hid hz
  have c0 := fun i => k0.cell i
  have c1 := fun i => k1.cell i
  have c2 := fun i => k2.cell i
  clear h hA hd hb k0 k1 k2 hz ht
  go_enter Tryz.func19, Tryz.ntmps19
  go_wp2_with fail
  refine NX.out.mono ?_
  rintro x w2 ⟨rfl, hb2⟩
  have X0 := Lib.hid (K0.out.below hb2 K0.out.lt)
  have X1 := Lib.hid (K1.out.below hb2 K1.out.lt)
  have X2 := Lib.hid (K2.out.below hb2 K2.out.lt)
  have B2 := Lib.hid (HB.out.trans (hb2.mono HB.out.size))
  have Z2 : w.heap.size + 3 ≤ w2.heap.size := by have := hb2.size; rw [HZ.out] at this; exact this
  clear hb2 c0 c1 c2
  cases hh : P.hasS (P.next st ds ls) dest
  · have HN := Lib.hid (P.movedTo_no (F := P.sentTurn) (reply := reply) hh)
    have HD := Lib.hid (P.doneOf_no (dn := dn) (now := now) (ls' := P.movedTo P.sentTurn st ds ls dest reply) hh)
    have CR := copyRow_any id run tm st dn flt raw A m cp ls B w2 (H.out.below (B2.out.mono hB)) HA.out (Nat.le_trans hB B2.out.size) hm
    have CR := Lib.hid CR
    have c1 := fun i => X1.out.cell i
    clear hh
    go_wp2_with fail
    refine CR.out.mono ?_
    rintro x w3 ⟨v, rfl, hown, hb3⟩
    have Y2 := Lib.hid (X2.out.below hb3 X2.out.lt)
    have B3 := Lib.hid (bt'' B2.out hb3)
    obtain ⟨A3, c3, rfl, -⟩ := hown.reads
    have O3 := Lib.hid hown
    clear hb3 hown c1
    go_wp2_with (refine wpList_store_blk (cs' := #[.int .i64 id, .int .i64 run, .int .i64 tm, .int .i64 st, .int .i64 dn, .string raw, .int .i64 flt, .slice A3 ls.length c3]) rfl 28 (.tmp 10) (.tmp 18) rfl (w.heap.size + 2) (by rfl) (by rfl) Y2.out rfl (by kernel_rfl) (by simp [Value.oneCell']) ?_; intro w4 hk4 hg4; have d2 := fun i => hk4.cell i; have O4 := Lib.hid (O3.out.grownAt hg4 (fun e => by have := (World.ownsRow.lt O3.out _ e).1; omega)); have B4 := Lib.hid (below_gr B3.out hg4 (by omega)); clear hk4 hg4)
    rw [HD.out, HN.out]
    refine bodyPost_ret (v := .agg #[.int .i64 id, .int .i64 run, .int .i64 tm, .int .i64 st, .int .i64 dn, .string raw, .int .i64 flt, .slice A3 ls.length c3]) (by simp [results, Tryz.results19, go_sem, d2]) rfl ⟨_, rfl, O4.out.less (by omega), B4.out⟩
  · have HH := Lib.hid hh
    obtain ⟨hst, ⟨k, l, hk1, hk2, hl, ho, hkl⟩, kd, d, hd1, hd2, hdd, hkd⟩ := P.turned_key hh
    have HN := Lib.hid (show P.movedTo P.sentTurn st ds ls dest reply = ls.set k (P.sentLeg (P.touch l reply)) from by rw [P.movedTo_yes hh hk1 hl hd1 hdd, P.sentTurn, List.set_set])
    have HD := Lib.hid (P.doneOf_yes (ls' := P.movedTo P.sentTurn st ds ls dest reply) (dn := dn) (now := now) hh)
    have TO := Lib.hid (touched_any id run tm st dn flt raw A m cp ls dest reply k l B w2 (H.out.below (B2.out.mono hB)) HA.out (Nat.le_trans hB B2.out.size) hm hk1 hk2 hl (HT.out l (List.mem_of_getElem? hl)) hr)
    have HLM := Lib.hid (show ls.length = m from H.out.len)
    have c1 := fun i => X1.out.cell i
    clear hh hst hk1 hk2 hl ho hd1 hd2 hdd hkd
    go_wp2_with fail
    refine TO.out.mono ?_
    rintro x w3 ⟨v, rfl, hown, hb3⟩
    obtain ⟨g2, c3, hv, hgb, hgl⟩ := World.ownsRow.form hown (by rw [List.length_set]; omega)
    rw [List.length_set] at hv
    subst hv
    have Y1 := Lib.hid (X1.out.below hb3 X1.out.lt)
    have Y2 := Lib.hid (X2.out.below hb3 X2.out.lt)
    have B3 := Lib.hid (bt'' B2.out hb3)
    have O3 := Lib.hid hown
    clear hb3 hown c1
    go_wp2_with (refine wpList_store_blk (cs' := #[.int .i64 id, .int .i64 run, .int .i64 tm, .int .i64 st, .int .i64 dn, .string raw, .int .i64 flt, .slice (some ⟨g2, 0, none⟩) ls.length c3]) rfl 28 (.tmp 6) (.tmp 24) rfl (w.heap.size + 1) (by rfl) (by rfl) Y1.out rfl (by kernel_rfl) (by simp [Value.oneCell']) ?_; intro w4 hk4 hg4; have Z1 := Lib.hid hk4; have Z2' := Lib.hid (Y2.out.grownAt hg4 (by omega)); have O4 := Lib.hid (O3.out.grownAt hg4 (by simp [Value.ownBlock]; omega)); have B4 := Lib.hid (below_gr B3.out hg4 (by omega)); clear hk4 hg4)
    refine wp_region_genC 12 [] (PutI w4 w2.heap.size g2 ls.length c3 (ls.set k (P.touch l reply)) k (fun L => { P.touch l reply with status := if L 8 = true then 3 else (P.touch l reply).status, due := if L 11 = true then 0 else (P.touch l reply).due })) (by kernel_rfl) (by kernel_rfl) (PutI.start (l := P.touch l reply) O4.out (by rw [List.getElem?_set_self hkl]) rfl) ?_
    apply wpGenC_pure rfl
    · intro L vs wx hI hC hR hL K hK
      have c1 := fun i => (Z1.out.grownAt hI.gr (by omega)).cell i
      go_simp
      exact hK _ (hI.pure (by simp [updN]))
    intro KK hKK
    go_simp
    refine hKK _ ?_
    clear hKK KK
    apply wpGenC_pure rfl
    · intro L vs wx hI hC hR hL K hK
      have c1 := fun i => (Z1.out.grownAt hI.gr (by omega)).cell i
      go_simp
      exact hK _ (hI.pure (by simp [updN]))
    intro KK hKK
    go_simp
    refine hKK _ ?_
    clear hKK KK
    apply wpGenC_pure rfl
    · intro L vs wx hI hC hR hL K hK
      go_simp
      exact hK _ (hI.pure (by simp [updN]))
    intro KK hKK
    go_simp
    refine hKK _ ?_
    clear hKK KK
    apply wpGenC_pure rfl
    · intro L vs wx hI hC hR hL K hK
      go_simp
      exact hK _ (hI.pure (by simp [updN]))
    intro KK hKK
    go_simp
    refine hKK _ ?_
    clear hKK KK
    apply wpGenC_pure rfl
    · intro L vs wx hI hC hR hL K hK
      have c1 := fun i => (Z1.out.grownAt hI.gr (by omega)).cell i
      go_simp
      exact hK _ (hI.pure (by simp [updN]))
    intro KK hKK
    go_simp
    refine hKK _ ?_
    clear hKK KK
    apply wpGenC_pure rfl
    · intro L vs wx hI hC hR hL K hK
      go_simp
      exact hK _ (hI.pure (by simp [updN]))
    intro KK hKK
    go_simp
    refine hKK _ ?_
    clear hKK KK
    apply wpGenC_pure rfl
    · intro L vs wx hI hC hR hL K hK
      go_simp
      exact hK _ (hI.pure (by simp [updN]))
    intro KK hKK
    go_simp
    refine hKK _ ?_
    clear hKK KK
    apply wpGenC_pure rfl
    · intro L vs wx hI hC hR hL K hK
      go_simp
      exact hK _ (hI.pure (by simp [updN]))
    intro KK hKK
    go_simp
    refine hKK _ ?_
    clear hKK KK
    apply wpGenC_pure rfl
    · intro L vs wx hI hC hR hL K hK
      obtain ⟨e0, e1, e2, e3, e4, e5⟩ := hI.legIn (by rw [List.length_set]; exact hkl)
      have fz := fun j => hI.frz (by rw [List.length_set]) j
      go_simp
      exact hK _ (hI.put (j := 1) (by rw [List.length_set]) (by rw [List.length_set]; exact hkl) (by simp [updN, updS, P.Leg.cells]) (by omega))
    intro KK hKK
    go_simp
    refine hKK _ ?_
    clear hKK KK
    apply wpGenC_pure rfl
    · intro L vs wx hI hC hR hL K hK
      go_simp
      exact hK _ (hI.pure (by simp [updN]))
    intro KK hKK
    go_simp
    refine hKK _ ?_
    clear hKK KK
    apply wpGenC_pure rfl
    · intro L vs wx hI hC hR hL K hK
      go_simp
      exact hK _ (hI.pure (by simp [updN]))
    intro KK hKK
    go_simp
    refine hKK _ ?_
    clear hKK KK
    apply wpGenC_pure rfl
    · intro L vs wx hI hC hR hL K hK
      obtain ⟨e0, e1, e2, e3, e4, e5⟩ := hI.legIn (by rw [List.length_set]; exact hkl)
      have fz := fun j => hI.frz (by rw [List.length_set]) j
      go_simp
      exact hK _ (hI.put (j := 3) (by rw [List.length_set]) (by rw [List.length_set]; exact hkl) (by simp [updN, updS, P.Leg.cells]) (by omega))
    intro KK hKK
    go_simp
    refine hKK _ ?_
    clear hKK KK
    refine wpGenC_nil ?_
    intro vs w5 hI5
    have O5 := hI5.own
    simp only [decide_true, if_true, show (8 : Nat) < 12 from by omega, show (11 : Nat) < 12 from by omega, List.set_set] at O5
    have V1 := Lib.hid (Z1.out.grownAt hI5.gr (by omega))
    have V2 := Lib.hid (Z2'.out.grownAt hI5.gr (by omega))
    have B5 := Lib.hid (below_gr B4.out hI5.gr (by omega))
    have OW5 := Lib.hid (show OwnL w5 w2.heap.size (.slice (some ⟨g2, 0, none⟩) ls.length c3) (ls.set k (P.sentLeg (P.touch l reply))) from O5)
    clear hI5 O5
    intro KK hKK
    simp only [List.drop_succ_cons, List.drop_nil]
    have c1 := fun i => V1.out.cell i
    have FI := Lib.hid (finished_any id run tm st dn flt raw (some ⟨g2, 0, none⟩) ls.length c3 (ls.set k (P.sentLeg (P.touch l reply))) now w5.heap.size w5 (OW5.out.legsAt (by rw [List.length_set])) (Nat.le_refl _) (by unfold maxLen; have := HLM.out; omega))
    go_wp2_with fail
    refine FI.out.mono ?_
    rintro x w6 ⟨rfl, hb6⟩
    have U2 := Lib.hid (V2.out.below hb6 V2.out.lt)
    have B6 := Lib.hid (bt'' B5.out hb6)
    have O6 := Lib.hid (OW5.out.below hb6 (Nat.le_refl _))
    clear hb6 c1
    obtain ⟨dn2, hdn2⟩ : ∃ dn2, dn2 = P.doneAt st (ls.set k (P.sentLeg (P.touch l reply))) dn now := ⟨_, rfl⟩
    rw [← hdn2]
    have HE := Lib.hid (show P.doneOf st ds ls (P.movedTo P.sentTurn st ds ls dest reply) dest dn now = dn2 from by rw [HD.out, HN.out, hdn2])
    clear hdn2
    go_wp2_with (refine wpList_store_blk (cs' := #[.int .i64 id, .int .i64 run, .int .i64 tm, .int .i64 st, .int .i64 dn2, .string raw, .int .i64 flt, .slice (some ⟨g2, 0, none⟩) ls.length c3]) rfl 28 (.tmp 10) (.tmp 38) rfl (w.heap.size + 2) (by rfl) (by rfl) U2.out rfl (by kernel_rfl) (by simp [Value.oneCell']) ?_; intro w7 hk7 hg7; have d2 := fun i => hk7.cell i; have O7 := Lib.hid (O6.out.grownAt hg7 (by simp [Value.ownBlock]; omega)); have B7 := Lib.hid (below_gr B6.out hg7 (by omega)); clear hk7 hg7)
    rw [HE.out, HN.out]
    refine bodyPost_ret (v := .agg #[.int .i64 id, .int .i64 run, .int .i64 tm, .int .i64 st, .int .i64 dn2, .string raw, .int .i64 flt, .slice (some ⟨g2, 0, none⟩) ls.length c3]) (by simp [results, Tryz.results19, go_sem, d2]) rfl ⟨_, rfl, O7.out.less (by omega), B7.out⟩
end Go.Proofs.YtemjipongehjlaaGreat
