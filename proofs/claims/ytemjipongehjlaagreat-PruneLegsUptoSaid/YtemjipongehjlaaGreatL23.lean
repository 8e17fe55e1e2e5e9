/- What the reference's Tried returns. -/
import Derived.Test.YtemjipongehjlaaGreatL22
namespace Go.Proofs.YtemjipongehjlaaGreat
set_option linter.unusedVariables false
open Go.RowKit Go.BigFrame
set_option maxRecDepth 100000 in
set_option maxHeartbeats 8000000 in
theorem refTried_any (cn cd cpre cfil ctr : ByteArray) (cf : Bool) (cpt crt : Int) (D : Option Addr) (n dc : Nat) (ds : List P.Dest) (id run tm st dn flt : Int) (raw : ByteArray) (A : Option Addr) (m cp : Nat) (ls : List P.Leg) (dest reply : ByteArray) (now : Int) (B : Nat) (w : World)
    (h : LegsAt w B A m ls) (hA : A = none → m = 0 ∧ cp = 0) (hd : DestsAt w B D n ds) (hB : B ≤ w.heap.size) (hm : m ≤ 1099511627776) (hn : n ≤ 1099511627776) (ht : ∀ l ∈ ls, (Lit.int .i64 l.tries).wf = true) (hr : reply.size ≤ maxLen) (hwn : (Lit.int .i64 now).wf = true) (hwb : ∀ d ∈ ds, (Lit.int .i64 d.backoff).wf = true) :
    Calls Tryz.prog 20 #[.agg #[.string cn, .bool cf, .int .i64 cpt, .string cd, .string cpre, .string cfil, .string ctr, .slice D n dc, .int .i64 crt], .agg #[.int .i64 id, .int .i64 run, .int .i64 tm, .int .i64 st, .int .i64 dn, .string raw, .int .i64 flt, .slice A m cp], .string dest, .string reply, .int .i64 now] w (GivesR w id run tm st (P.doneOf st ds ls (P.movedTo (P.triedTurn now ds) st ds ls dest reply) dest dn now) flt raw (P.movedTo (P.triedTurn now ds) st ds ls dest reply)) := by
  have hb := (((Below.refl w.heap.size w).alloc (Nat.le_refl _) (.cells #[.string cn, .bool cf, .int .i64 cpt, .string cd, .string cpre, .string cfil, .string ctr, .slice D n dc, .int .i64 crt] 24)).alloc (by simp) (.cells #[.int .i64 id, .int .i64 run, .int .i64 tm, .int .i64 st, .int .i64 dn, .string raw, .int .i64 flt, .slice A m cp] 28)).alloc (by simp; omega) (.cells #[.int .i64 0, .int .i64 0, .int .i64 0, .int .i64 0, .int .i64 0, .string ⟨#[]⟩, .int .i64 0, .slice none 0 0] 28)
  have k0 := ((Blk.new w 24 #[.string cn, .bool cf, .int .i64 cpt, .string cd, .string cpre, .string cfil, .string ctr, .slice D n dc, .int .i64 crt]).alloc (.cells #[.int .i64 id, .int .i64 run, .int .i64 tm, .int .i64 st, .int .i64 dn, .string raw, .int .i64 flt, .slice A m cp] 28)).alloc (.cells #[.int .i64 0, .int .i64 0, .int .i64 0, .int .i64 0, .int .i64 0, .string ⟨#[]⟩, .int .i64 0, .slice none 0 0] 28)
  have k1 := (Blk.new (w.alloc (.cells #[.string cn, .bool cf, .int .i64 cpt, .string cd, .string cpre, .string cfil, .string ctr, .slice D n dc, .int .i64 crt] 24)) 28 #[.int .i64 id, .int .i64 run, .int .i64 tm, .int .i64 st, .int .i64 dn, .string raw, .int .i64 flt, .slice A m cp]).alloc (.cells #[.int .i64 0, .int .i64 0, .int .i64 0, .int .i64 0, .int .i64 0, .string ⟨#[]⟩, .int .i64 0, .slice none 0 0] 28)
  have k2 := Blk.new ((w.alloc (.cells #[.string cn, .bool cf, .int .i64 cpt, .string cd, .string cpre, .string cfil, .string ctr, .slice D n dc, .int .i64 crt] 24)).alloc (.cells #[.int .i64 id, .int .i64 run, .int .i64 tm, .int .i64 st, .int .i64 dn, .string raw, .int .i64 flt, .slice A m cp] 28)) 28 #[.int .i64 0, .int .i64 0, .int .i64 0, .int .i64 0, .int .i64 0, .string ⟨#[]⟩, .int .i64 0, .slice none 0 0]
  rw [show (w.alloc (.cells #[.string cn, .bool cf, .int .i64 cpt, .string cd, .string cpre, .string cfil, .string ctr, .slice D n dc, .int .i64 crt] 24)).heap.size = w.heap.size + 1 from by simp] at k1
  rw [show ((w.alloc (.cells #[.string cn, .bool cf, .int .i64 cpt, .string cd, .string cpre, .string cfil, .string ctr, .slice D n dc, .int .i64 crt] 24)).alloc (.cells #[.int .i64 id, .int .i64 run, .int .i64 tm, .int .i64 st, .int .i64 dn, .string raw, .int .i64 flt, .slice A m cp] 28)).heap.size = w.heap.size + 2 from by simp] at k2
  have hz : (((w.alloc (.cells #[.string cn, .bool cf, .int .i64 cpt, .string cd, .string cpre, .string cfil, .string ctr, .slice D n dc, .int .i64 crt] 24)).alloc (.cells #[.int .i64 id, .int .i64 run, .int .i64 tm, .int .i64 st, .int .i64 dn, .string raw, .int .i64 flt, .slice A m cp] 28)).alloc (.cells #[.int .i64 0, .int .i64 0, .int .i64 0, .int .i64 0, .int .i64 0, .string ⟨#[]⟩, .int .i64 0, .slice none 0 0] 28)).heap.size = w.heap.size + 3 := by simp
  have NX := Lib.hid (isNext_any id run tm st dn flt raw A m cp ls cn cd cpre cfil ctr cf cpt crt D n dc ds dest B _ (h.below (hb.mono hB)) (hd.below (hb.mono hB)) (Nat.le_trans hB hb.size) (by unfold maxLen; omega) hn)
  have H := Lib.hid h
  have HDS := Lib.hid hd
  have HT := Lib.hid ht
  have HA := Lib.hid hA
  have HB := Lib.hid hb
  have K0 := Lib.hid k0
  have K1 := Lib.hid k1
  have K2 := Lib.hid k2
  have HZ := Lib.hid hz
  have c0 := fun i => k0.cell i
  have c1 := fun i => k1.cell i
  have c2 := fun i => k2.cell i
  clear h hA hd hb k0 k1 k2 hz ht
  go_enter Tryz.func20, Tryz.ntmps20
  go_wp2_with fail
  refine NX.out.mono ?_
  rintro x w2 ⟨rfl, hb2⟩
  have X0 := Lib.hid (K0.out.below hb2 K0.out.lt)
  have X1 := Lib.hid (K1.out.below hb2 K1.out.lt)
  have X2 := Lib.hid (K2.out.below hb2 K2.out.lt)
  have B2 := Lib.hid (HB.out.trans (hb2.mono HB.out.size))
  have Z2 : w.heap.size + 3 ≤ w2.heap.size := by have := hb2.size; rw [HZ.out] at this; exact this
  clear hb2 c0 c1 c2
  cases hh : P.hasS (P.next st ds ls) dest
  · have HN := Lib.hid (P.movedTo_no (F := P.triedTurn now ds) (reply := reply) hh)
    have HD := Lib.hid (P.doneOf_no (dn := dn) (now := now) (ls' := P.movedTo (P.triedTurn now ds) st ds ls dest reply) hh)
    have CR := copyRow_any id run tm st dn flt raw A m cp ls B w2 (H.out.below (B2.out.mono hB)) HA.out (Nat.le_trans hB B2.out.size) hm
    have CR := Lib.hid CR
    have c1 := fun i => X1.out.cell i
    clear hh
    go_wp2_with fail
    refine CR.out.mono ?_
    rintro x w3 ⟨v, rfl, hown, hb3⟩
    have Y2 := Lib.hid (X2.out.below hb3 X2.out.lt)
    have B3 := Lib.hid (bt'' B2.out hb3)
    obtain ⟨A3, c3, rfl, -⟩ := hown.reads
    have O3 := Lib.hid hown
    clear hb3 hown c1
    go_wp2_with (refine wpList_store_blk (cs' := #[.int .i64 id, .int .i64 run, .int .i64 tm, .int .i64 st, .int .i64 dn, .string raw, .int .i64 flt, .slice A3 ls.length c3]) rfl 28 (.tmp 10) (.tmp 20) rfl (w.heap.size + 2) (by rfl) (by rfl) Y2.out rfl (by kernel_rfl) (by simp [Value.oneCell']) ?_; intro w4 hk4 hg4; have d2 := fun i => hk4.cell i; have O4 := Lib.hid (O3.out.grownAt hg4 (fun e => by have := (World.ownsRow.lt O3.out _ e).1; omega)); have B4 := Lib.hid (below_gr B3.out hg4 (by omega)); clear hk4 hg4)
    rw [HD.out, HN.out]
    refine bodyPost_ret (v := .agg #[.int .i64 id, .int .i64 run, .int .i64 tm, .int .i64 st, .int .i64 dn, .string raw, .int .i64 flt, .slice A3 ls.length c3]) (by simp [results, Tryz.results20, go_sem, d2]) rfl ⟨_, rfl, O4.out.less (by omega), B4.out⟩
  · have HH := Lib.hid hh
    obtain ⟨hst, ⟨k, l, hk1, hk2, hl, ho, hkl⟩, kd, d, hd1, hd2, hdd, hkd⟩ := P.turned_key hh
    have M1 := Lib.hid (P.movedTo_yes (F := P.triedTurn now ds) (reply := reply) hh hk1 hl hd1 hdd)
    have M2 := Lib.hid (P.movedTo_yes (F := P.failTurn ds) (reply := reply) hh hk1 hl hd1 hdd)
    have HD := Lib.hid (fun dn => P.doneOf_yes (ls' := P.movedTo (P.triedTurn now ds) st ds ls dest reply) (dn := dn) (now := now) hh)
    have key := P.triedTurn_key now ds (ls.set k (P.touch l reply)) k (P.touch l reply) d
    have TO := Lib.hid (fun W (hW : Below w.heap.size w W) => touched_any id run tm st dn flt raw A m cp ls dest reply k l B W (H.out.below (hW.mono hB)) HA.out (Nat.le_trans hB hW.size) hm hk1 hk2 hl (HT.out l (List.mem_of_getElem? hl)) hr)
    have HLM := Lib.hid (show ls.length = m from H.out.len)
    have hwt := HT.out l (List.mem_of_getElem? hl)
    have hwt1 : (Lit.int .i64 (P.touch l reply).tries).wf = true := add_wf hwt
    have hbd := bounds_i64 hwt1
    have hbb := bounds_i64 (hwb d (List.mem_of_getElem? hdd))
    have hbn := bounds_i64 hwn
    have FD := Lib.hid (fun W (hW : Below w.heap.size w W) => refFailed_any cn cd cpre cfil ctr cf cpt crt D n dc ds id run tm st dn flt raw A m cp ls dest reply now B W (H.out.below (hW.mono hB)) HA.out (HDS.out.below (hW.mono hB)) (Nat.le_trans hB hW.size) hm hn HT.out hr)
    have AT := Lib.hid (fun W (hW : Below w.heap.size w W) => at_any cn cd cpre cfil ctr cf cpt crt D n dc ds dest B W (HDS.out.below (hW.mono hB)) (Nat.le_trans hB hW.size) (by unfold maxLen; omega))
    rw [hd2] at AT
    have hnd := HDS.out.len
    have hkn : kd < n := by omega
    obtain ⟨ad, d', rfl, hdb, hdd', hdc⟩ := HDS.out.in_ hkn
    obtain rfl : d' = d := Option.some.inj (hdd'.symm.trans hdd)
    have DI := Lib.hid hdc
    have HDB := Lib.hid hdb
    clear hh hst hk1 hk2 hl ho hd1 hd2 hdd hkd hdd' hdc hdb hnd hwt hwt1
    go_wp2_with fail
    refine wp_region_free 8 [] Stays (fun | 7 => some fun v w' => ∃ g, v = .pointer (some ⟨g, 0, none⟩) ∧ w2.heap.size ≤ g ∧ Blk w' g 67 #[.string ⟨#[]⟩, .int .i64 0, .bool false, .int .i64 0, .string ⟨#[]⟩, .int .i64 0, .int .i64 0, .int .i64 0, .string ⟨#[]⟩] | _ => none) (by kernel_rfl) (by kernel_rfl) Stays.refl (by simp) (Stays.draw _) Stays.trans ?_ ?_
    · intro j φ v x y hB hp hxy
      split at hB <;> cases hB
      obtain ⟨g, hg, h1, hb⟩ := hp
      exact ⟨g, hg, h1, hb.stays hxy⟩
    · apply wpFree_pure rfl rfl
      · intro vs wx hk K hK
        go_simp
        exact hK _ (Stays.refl _)
      intro KK hKK
      go_simp
      refine hKK _ ?_
      clear hKK KK
      apply wpFree_pure rfl rfl
      · intro vs wx hk K hK
        have c0 := fun i => (X0.out.stays hk.1).cell i
        go_simp
        exact hK _ (Stays.refl _)
      intro KK hKK
      go_simp
      refine hKK _ ?_
      clear hKK KK
      apply wpFree_pure rfl rfl
      · intro vs wx hk K hK
        have c0 := fun i => (X0.out.stays hk.1).cell i
        go_simp
        exact hK _ (Stays.refl _)
      intro KK hKK
      go_simp
      refine hKK _ ?_
      clear hKK KK
      apply wpFree_pure rfl rfl
      · intro vs wx hk K hK
        go_simp
        exact hK _ (Stays.refl _)
      intro KK hKK
      go_simp
      refine hKK _ ?_
      clear hKK KK
      apply wpFree_pure rfl rfl
      · intro vs wx hk K hK
        have CI := AT.out wx (bt' B2.out hk.1)
        go_simp
        first
          | exact hK _ (Stays.refl _)
          | exact Calls.free hK CI
      intro KK hKK
      go_simp
      refine hKK _ ?_
      clear hKK KK
      apply wpFree_pure rfl rfl
      · intro vs wx hk K hK
        go_simp
        exact hK _ (Stays.refl _)
      intro KK hKK
      go_simp
      refine hKK _ ?_
      clear hKK KK
      apply wpFree_pure rfl rfl
      · intro vs wx hk K hK
        have hW := bt' B2.out hk.1
        obtain ⟨c0, c1, c2, c3, c4, c5, c6, c7, c8⟩ := DI.out.keep (hW.mono hB) HDB.out
        go_simp
        exact hK _ (Stays.refl _)
      intro KK hKK
      go_simp
      refine hKK _ ?_
      clear hKK KK
      refine wpFree_fact rfl ?_ ?_
      · intro vs wx hk K hK
        go_simp
        exact hK _ _ (Stays.alloc _ _) ⟨_, rfl, hk.1.size, Blk.new _ _ _⟩
      intro KK hKK
      go_simp
      refine hKK _ ?_
      clear hKK KK
      refine wpFree_nil ?_
      intro vs3 w3 hs3 hf3
      obtain ⟨g11, hg11, hge, hb11⟩ := hf3 7 _ (by omega) rfl
      intro KK hKK
      rw [hg11]
      clear hf3 hg11
      simp only [List.drop_succ_cons, List.drop_zero]
      refine wpList_store_blk (cs' := #[.string d'.name, .int .i64 d'.chain, .bool d'.file, .int .i64 d'.port, .string d'.dir, .int .i64 d'.retry, .int .i64 d'.backoff, .int .i64 d'.timeout, .string d'.response]) rfl 67 (.tmp 11) (.tmp 27) rfl g11 (by rfl) (by rfl) hb11 rfl (by kernel_rfl) (by simp [Value.oneCell']) ?_
      intro w4 hk4 hg4
      have Z11 := Lib.hid hk4
      have Z0 := Lib.hid ((X0.out.stays hs3).grownAt hg4 (by omega))
      have Z1 := Lib.hid ((X1.out.stays hs3).grownAt hg4 (by omega))
      have Z2 := Lib.hid ((X2.out.stays hs3).grownAt hg4 (by omega))
      have B4 := Lib.hid (below_gr (bt' B2.out hs3) hg4 (by omega))
      have z4 := Nat.le_trans hs3.size hg4.size
      have hg11l := hk4.lt
      have T4 := Lib.hid (TO.out w4 B4.out)
      have c1 := fun i => Z1.out.cell i
      clear hs3 hb11 hk4 hg4
      go_wp2_with fail
      refine T4.out.mono ?_
      rintro x w5 ⟨v, rfl, hown, hb5⟩
      obtain ⟨g2, c3, hv, hgb, hgl⟩ := World.ownsRow.form hown (by rw [List.length_set]; omega)
      rw [List.length_set] at hv
      subst hv
      have Y11 := Lib.hid ((Z11.out.below hb5 Z11.out.lt).alloc (.cells #[.int .i64 0, .int .i64 0, .int .i64 0, .int .i64 0, .int .i64 0, .string ⟨#[]⟩, .int .i64 0, .slice none 0 0] 28))
      have Y0 := Lib.hid ((Z0.out.below hb5 Z0.out.lt).alloc (.cells #[.int .i64 0, .int .i64 0, .int .i64 0, .int .i64 0, .int .i64 0, .string ⟨#[]⟩, .int .i64 0, .slice none 0 0] 28))
      have Y1 := Lib.hid ((Z1.out.below hb5 Z1.out.lt).alloc (.cells #[.int .i64 0, .int .i64 0, .int .i64 0, .int .i64 0, .int .i64 0, .string ⟨#[]⟩, .int .i64 0, .slice none 0 0] 28))
      have Y2 := Lib.hid ((Z2.out.below hb5 Z2.out.lt).alloc (.cells #[.int .i64 0, .int .i64 0, .int .i64 0, .int .i64 0, .int .i64 0, .string ⟨#[]⟩, .int .i64 0, .slice none 0 0] 28))
      have Y12 := Lib.hid (Blk.new w5 28 #[.int .i64 0, .int .i64 0, .int .i64 0, .int .i64 0, .int .i64 0, .string ⟨#[]⟩, .int .i64 0, .slice none 0 0])
      have B5 := Lib.hid ((bt'' B4.out hb5).alloc (bt'' B4.out hb5).size (.cells #[.int .i64 0, .int .i64 0, .int .i64 0, .int .i64 0, .int .i64 0, .string ⟨#[]⟩, .int .i64 0, .slice none 0 0] 28))
      have O5 := Lib.hid (OwnL.alloc hown (.cells #[.int .i64 0, .int .i64 0, .int .i64 0, .int .i64 0, .int .i64 0, .string ⟨#[]⟩, .int .i64 0, .slice none 0 0] 28))
      have z5 := hb5.size
      clear hb5 hown c1
      go_wp2_with (refine wpList_store_blk (cs' := #[.int .i64 id, .int .i64 run, .int .i64 tm, .int .i64 st, .int .i64 dn, .string raw, .int .i64 flt, .slice (some ⟨g2, 0, none⟩) ls.length c3]) rfl 28 (.tmp 12) (.tmp 33) rfl w5.heap.size (by rfl) (by rfl) Y12.out rfl (by kernel_rfl) (by simp [Value.oneCell']) ?_; intro w6 hk6 hg6; have V12 := Lib.hid hk6; have V11 := Lib.hid (Y11.out.grownAt hg6 (by omega)); have V0 := Lib.hid (Y0.out.grownAt hg6 (by omega)); have V1 := Lib.hid (Y1.out.grownAt hg6 (by omega)); have V2 := Lib.hid (Y2.out.grownAt hg6 (by omega)); have B6 := Lib.hid (below_gr B5.out hg6 (by omega)); have O6 := Lib.hid (O5.out.grownAt hg6 (by simp [Value.ownBlock]; omega)); have z6 := hg6.size; clear hk6 hg6)
      have hz6 : w5.heap.size + 1 ≤ w6.heap.size := by simpa using z6
      clear z6
      have HLk := Lib.hid (show (ls.set k (P.touch l reply))[k]? = some (P.touch l reply) from by rw [List.getElem?_set_self hkl])
      have HS1 := Lib.hid (show (ls.set k (P.touch l reply)).length = ls.length from by rw [List.length_set])
      have hls0 : (ls.set k (P.touch l reply)).length = ls.length := HS1.out
      have hkl2 : k < (ls.set k (P.touch l reply)).length := by omega
      have HKL2 := Lib.hid hkl2
      clear hls0 hkl2
      generalize htl : P.touch l reply = tl at *
      generalize hls1 : ls.set k tl = ls1 at *
      clear htl
      have LI := O6.out.legIn HLk.out
      have cellR : ∀ x : Ext w6, ∀ i, x.wd.cell? ⟨w5.heap.size, i, none⟩ = (#[.int .i64 id, .int .i64 run, .int .i64 tm, .int .i64 st, .int .i64 dn, .string raw, .int .i64 flt, .slice (some ⟨g2, 0, none⟩) ls.length c3] : Array Value)[i]? := fun x i => by rw [x.cell V12.out.lt, V12.out.cell]
      have cellD : ∀ x : Ext w6, ∀ i, x.wd.cell? ⟨g11, i, none⟩ = (#[.string d'.name, .int .i64 d'.chain, .bool d'.file, .int .i64 d'.port, .string d'.dir, .int .i64 d'.retry, .int .i64 d'.backoff, .int .i64 d'.timeout, .string d'.response] : Array Value)[i]? := fun x i => by rw [x.cell V11.out.lt, V11.out.cell]
      have cellL : ∀ x : Ext w6, x.wd.cell? ⟨g2, k * 6 + 2, none⟩ = some (.int .i64 tl.tries) := fun x => by
        rw [x.cell (p := ⟨g2, k * 6 + 2, none⟩) (by show g2 < _; omega)]
        exact LI.c2
      clear LI
      rcases key with ⟨t1, ht⟩ | ⟨t1, t2, ht⟩ | ⟨t1, t2, ht⟩
      all_goals
        have HTT := Lib.hid ht
        clear ht
        refine wp_region_ext (by kernel_rfl) (by kernel_rfl) ?_
        repeat (first | go_big_quiet_step (fail) | quiet_step (fail))
        refine wpQuiet_nil ?_
        intro w7 hb7
        have S7 := Lib.hid (show Stays w6 w7 from hb7)
        clear hb7 cellR cellD cellL
        have U0 := Lib.hid (V0.out.stays S7.out)
        have U1 := Lib.hid (V1.out.stays S7.out)
        have U2 := Lib.hid (V2.out.stays S7.out)
        have U11 := Lib.hid (V11.out.stays S7.out)
        have U12 := Lib.hid (V12.out.stays S7.out)
        have B7 := Lib.hid (bt' B6.out S7.out)
        have O7 := Lib.hid (O6.out.stays S7.out)
      · have M3 := Lib.hid (M1.out.trans HTT.out)
        go_wp2_with fail
        refine wp_region_genC 22 [] (PutI w7 w4.heap.size g2 ls.length c3 ls1 k (fun L => { tl with status := if L 18 = true then 2 else tl.status, due := if L 21 = true then P.dueAt now d'.backoff tl.tries else tl.due })) (by kernel_rfl) (by kernel_rfl) (PutI.start (l := tl) O7.out HLk.out rfl) ?_
        apply wpGenC_pure rfl
        · intro L vs wx hI hC hR hL K hK
          go_simp
          exact hK _ (hI.pure (by simp [updN]))
        intro KK hKK
        go_simp
        refine hKK _ ?_
        clear hKK KK
        apply wpGenC_pure rfl
        · intro L vs wx hI hC hR hL K hK
          have c1 := fun i => (U12.out.grownAt hI.gr (by omega)).cell i
          go_simp
          exact hK _ (hI.pure (by simp [updN]))
        intro KK hKK
        go_simp
        refine hKK _ ?_
        clear hKK KK
        apply wpGenC_pure rfl
        · intro L vs wx hI hC hR hL K hK
          go_simp
          exact hK _ (hI.pure (by simp [updN]))
        intro KK hKK
        go_simp
        refine hKK _ ?_
        clear hKK KK
        apply wpGenC_pure rfl
        · intro L vs wx hI hC hR hL K hK
          go_simp
          exact hK _ (hI.pure (by simp [updN]))
        intro KK hKK
        go_simp
        refine hKK _ ?_
        clear hKK KK
        apply wpGenC_pure rfl
        · intro L vs wx hI hC hR hL K hK
          have c1 := fun i => (U12.out.grownAt hI.gr (by omega)).cell i
          go_simp
          exact hK _ (hI.pure (by simp [updN]))
        intro KK hKK
        go_simp
        refine hKK _ ?_
        clear hKK KK
        apply wpGenC_pure rfl
        · intro L vs wx hI hC hR hL K hK
          go_simp
          exact hK _ (hI.pure (by simp [updN]))
        intro KK hKK
        go_simp
        refine hKK _ ?_
        clear hKK KK
        apply wpGenC_pure rfl
        · intro L vs wx hI hC hR hL K hK
          go_simp
          exact hK _ (hI.pure (by simp [updN]))
        intro KK hKK
        go_simp
        refine hKK _ ?_
        clear hKK KK
        apply wpGenC_pure rfl
        · intro L vs wx hI hC hR hL K hK
          go_simp
          exact hK _ (hI.pure (by simp [updN]))
        intro KK hKK
        go_simp
        refine hKK _ ?_
        clear hKK KK
        apply wpGenC_pure rfl
        · intro L vs wx hI hC hR hL K hK
          have c1 := fun i => (U11.out.grownAt hI.gr (by omega)).cell i
          go_simp
          exact hK _ (hI.pure (by simp [updN]))
        intro KK hKK
        go_simp
        refine hKK _ ?_
        clear hKK KK
        apply wpGenC_pure rfl
        · intro L vs wx hI hC hR hL K hK
          go_simp
          exact hK _ (hI.pure (by simp [updN]))
        intro KK hKK
        go_simp
        refine hKK _ ?_
        clear hKK KK
        apply wpGenC_pure rfl
        · intro L vs wx hI hC hR hL K hK
          have c1 := fun i => (U12.out.grownAt hI.gr (by omega)).cell i
          go_simp
          exact hK _ (hI.pure (by simp [updN]))
        intro KK hKK
        go_simp
        refine hKK _ ?_
        clear hKK KK
        apply wpGenC_pure rfl
        · intro L vs wx hI hC hR hL K hK
          go_simp
          exact hK _ (hI.pure (by simp [updN]))
        intro KK hKK
        go_simp
        refine hKK _ ?_
        clear hKK KK
        apply wpGenC_pure rfl
        · intro L vs wx hI hC hR hL K hK
          go_simp
          exact hK _ (hI.pure (by simp [updN]))
        intro KK hKK
        go_simp
        refine hKK _ ?_
        clear hKK KK
        apply wpGenC_pure rfl
        · intro L vs wx hI hC hR hL K hK
          go_simp
          exact hK _ (hI.pure (by simp [updN]))
        intro KK hKK
        go_simp
        refine hKK _ ?_
        clear hKK KK
        apply wpGenC_pure rfl
        · intro L vs wx hI hC hR hL K hK
          obtain ⟨e0, e1, e2, e3, e4, e5⟩ := hI.legIn HKL2.out
          go_simp
          exact hK _ (hI.pure (by simp [updN]))
        intro KK hKK
        go_simp
        refine hKK _ ?_
        clear hKK KK
        apply wpGenC_pure rfl
        · intro L vs wx hI hC hR hL K hK
          go_simp
          refine (ref3Due_any now d'.backoff tl.tries _ hbn.1 hbn.2 hbb.1 hbb.2 hbd.1 hbd.2).mono ?_
          rintro e w' ⟨rfl, rfl⟩
          exact ⟨_, rfl, hK _ (hI.pure (by simp [updN]))⟩
        intro KK hKK
        go_simp
        refine hKK _ ?_
        clear hKK KK
        apply wpGenC_pure rfl
        · intro L vs wx hI hC hR hL K hK
          go_simp
          exact hK _ (hI.pure (by simp [updN]))
        intro KK hKK
        go_simp
        refine hKK _ ?_
        clear hKK KK
        apply wpGenC_pure rfl
        · intro L vs wx hI hC hR hL K hK
          go_simp
          exact hK _ (hI.pure (by simp [updN]))
        intro KK hKK
        go_simp
        refine hKK _ ?_
        clear hKK KK
        apply wpGenC_pure rfl
        · intro L vs wx hI hC hR hL K hK
          obtain ⟨e0, e1, e2, e3, e4, e5⟩ := hI.legIn HKL2.out
          have fz := fun j => hI.frz HS1.out j
          go_simp
          exact hK _ (hI.put (j := 1) HS1.out HKL2.out (by simp [updN, updS, P.Leg.cells]) (by omega))
        intro KK hKK
        go_simp
        refine hKK _ ?_
        clear hKK KK
        apply wpGenC_pure rfl
        · intro L vs wx hI hC hR hL K hK
          go_simp
          exact hK _ (hI.pure (by simp [updN]))
        intro KK hKK
        go_simp
        refine hKK _ ?_
        clear hKK KK
        apply wpGenC_pure rfl
        · intro L vs wx hI hC hR hL K hK
          go_simp
          exact hK _ (hI.pure (by simp [updN]))
        intro KK hKK
        go_simp
        refine hKK _ ?_
        clear hKK KK
        apply wpGenC_pure rfl
        · intro L vs wx hI hC hR hL K hK
          obtain ⟨e0, e1, e2, e3, e4, e5⟩ := hI.legIn HKL2.out
          have fz := fun j => hI.frz HS1.out j
          go_simp
          exact hK _ (hI.put (j := 3) HS1.out HKL2.out (by simp [updN, updS, P.Leg.cells]) (by omega))
        intro KK hKK
        go_simp
        refine hKK _ ?_
        clear hKK KK
        refine wpGenC_nil ?_
        intro vs8 w8 hI8
        have O8 := hI8.own
        simp only [decide_true, if_true, show (18 : Nat) < 22 from by omega, show (21 : Nat) < 22 from by omega] at O8
        have Q12 := Lib.hid (U12.out.grownAt hI8.gr (by omega))
        have Q2 := Lib.hid (U2.out.grownAt hI8.gr (by omega))
        have B8 := Lib.hid (below_gr B7.out hI8.gr (by omega))
        obtain ⟨ls2, hls2⟩ : ∃ ls2, ls2 = ls1.set k { tl with status := 2, due := P.dueAt now d'.backoff tl.tries } := ⟨_, rfl⟩
        have OW8 := Lib.hid (show OwnL w8 w4.heap.size (.slice (some ⟨g2, 0, none⟩) ls.length c3) ls2 from hls2 ▸ O8)
        have HM := Lib.hid (M3.out.trans hls2.symm)
        have L2 := Lib.hid (show ls2.length = ls.length from by rw [hls2, List.length_set]; exact HS1.out)
        clear hI8 O8 M3 hls2
        intro KK2 hKK2
        simp only [List.drop_succ_cons, List.drop_nil]
        obtain ⟨dn2, hdn2⟩ : ∃ dn2, dn2 = P.doneAt st ls2 dn now := ⟨_, rfl⟩
        have HE := Lib.hid (show P.doneOf st ds ls (P.movedTo (P.triedTurn now ds) st ds ls dest reply) dest dn now = dn2 from by rw [HD.out, HM.out, hdn2])
        have FI := finished_any id run tm st dn flt raw (some ⟨g2, 0, none⟩) ls.length c3 ls2 now w8.heap.size w8 (OW8.out.legsAt L2.out) (Nat.le_refl _) (by unfold maxLen; have := HLM.out; omega)
        rw [← hdn2] at FI
        have FI := Lib.hid FI
        clear hdn2
        have c1 := fun i => Q12.out.cell i
        go_wp2_with fail
        refine FI.out.mono ?_
        rintro x w9 ⟨rfl, hb9⟩
        have R2 := Lib.hid (Q2.out.below hb9 Q2.out.lt)
        have B9 := Lib.hid (bt'' B8.out hb9)
        have O9 := Lib.hid (OW8.out.below hb9 (Nat.le_refl _))
        clear hb9 c1
        go_wp2_with (refine wpList_store_blk (cs' := #[.int .i64 id, .int .i64 run, .int .i64 tm, .int .i64 st, .int .i64 dn2, .string raw, .int .i64 flt, .slice (some ⟨g2, 0, none⟩) ls.length c3]) rfl 28 (.tmp 10) (.tmp 77) rfl (w.heap.size + 2) (by rfl) (by rfl) R2.out rfl (by kernel_rfl) (by simp [Value.oneCell']) ?_; intro w10 hk10 hg10; have d2 := fun i => hk10.cell i; have O10 := Lib.hid (O9.out.grownAt hg10 (by simp [Value.ownBlock]; omega)); have B10 := Lib.hid (below_gr B9.out hg10 (by omega)); clear hk10 hg10)
        rw [HE.out, HM.out]
        refine bodyPost_ret (v := .agg #[.int .i64 id, .int .i64 run, .int .i64 tm, .int .i64 st, .int .i64 dn2, .string raw, .int .i64 flt, .slice (some ⟨g2, 0, none⟩) ls.length c3]) (by simp [results, Tryz.results20, go_sem, d2]) rfl ⟨_, rfl, O10.out.less (by omega), B10.out⟩
      · have M3 := Lib.hid (M1.out.trans HTT.out)
        go_wp2_with fail
        refine wp_region_genC 22 [] (PutI w7 w4.heap.size g2 ls.length c3 ls1 k (fun L => { tl with status := if L 18 = true then 2 else tl.status, due := if L 21 = true then P.dueAt now d'.backoff tl.tries else tl.due })) (by kernel_rfl) (by kernel_rfl) (PutI.start (l := tl) O7.out HLk.out rfl) ?_
        apply wpGenC_pure rfl
        · intro L vs wx hI hC hR hL K hK
          go_simp
          exact hK _ (hI.pure (by simp [updN]))
        intro KK hKK
        go_simp
        refine hKK _ ?_
        clear hKK KK
        apply wpGenC_pure rfl
        · intro L vs wx hI hC hR hL K hK
          have c1 := fun i => (U12.out.grownAt hI.gr (by omega)).cell i
          go_simp
          exact hK _ (hI.pure (by simp [updN]))
        intro KK hKK
        go_simp
        refine hKK _ ?_
        clear hKK KK
        apply wpGenC_pure rfl
        · intro L vs wx hI hC hR hL K hK
          go_simp
          exact hK _ (hI.pure (by simp [updN]))
        intro KK hKK
        go_simp
        refine hKK _ ?_
        clear hKK KK
        apply wpGenC_pure rfl
        · intro L vs wx hI hC hR hL K hK
          go_simp
          exact hK _ (hI.pure (by simp [updN]))
        intro KK hKK
        go_simp
        refine hKK _ ?_
        clear hKK KK
        apply wpGenC_pure rfl
        · intro L vs wx hI hC hR hL K hK
          have c1 := fun i => (U12.out.grownAt hI.gr (by omega)).cell i
          go_simp
          exact hK _ (hI.pure (by simp [updN]))
        intro KK hKK
        go_simp
        refine hKK _ ?_
        clear hKK KK
        apply wpGenC_pure rfl
        · intro L vs wx hI hC hR hL K hK
          go_simp
          exact hK _ (hI.pure (by simp [updN]))
        intro KK hKK
        go_simp
        refine hKK _ ?_
        clear hKK KK
        apply wpGenC_pure rfl
        · intro L vs wx hI hC hR hL K hK
          go_simp
          exact hK _ (hI.pure (by simp [updN]))
        intro KK hKK
        go_simp
        refine hKK _ ?_
        clear hKK KK
        apply wpGenC_pure rfl
        · intro L vs wx hI hC hR hL K hK
          go_simp
          exact hK _ (hI.pure (by simp [updN]))
        intro KK hKK
        go_simp
        refine hKK _ ?_
        clear hKK KK
        apply wpGenC_pure rfl
        · intro L vs wx hI hC hR hL K hK
          have c1 := fun i => (U11.out.grownAt hI.gr (by omega)).cell i
          go_simp
          exact hK _ (hI.pure (by simp [updN]))
        intro KK hKK
        go_simp
        refine hKK _ ?_
        clear hKK KK
        apply wpGenC_pure rfl
        · intro L vs wx hI hC hR hL K hK
          go_simp
          exact hK _ (hI.pure (by simp [updN]))
        intro KK hKK
        go_simp
        refine hKK _ ?_
        clear hKK KK
        apply wpGenC_pure rfl
        · intro L vs wx hI hC hR hL K hK
          have c1 := fun i => (U12.out.grownAt hI.gr (by omega)).cell i
          go_simp
          exact hK _ (hI.pure (by simp [updN]))
        intro KK hKK
        go_simp
        refine hKK _ ?_
        clear hKK KK
        apply wpGenC_pure rfl
        · intro L vs wx hI hC hR hL K hK
          go_simp
          exact hK _ (hI.pure (by simp [updN]))
        intro KK hKK
        go_simp
        refine hKK _ ?_
        clear hKK KK
        apply wpGenC_pure rfl
        · intro L vs wx hI hC hR hL K hK
          go_simp
          exact hK _ (hI.pure (by simp [updN]))
        intro KK hKK
        go_simp
        refine hKK _ ?_
        clear hKK KK
        apply wpGenC_pure rfl
        · intro L vs wx hI hC hR hL K hK
          go_simp
          exact hK _ (hI.pure (by simp [updN]))
        intro KK hKK
        go_simp
        refine hKK _ ?_
        clear hKK KK
        apply wpGenC_pure rfl
        · intro L vs wx hI hC hR hL K hK
          obtain ⟨e0, e1, e2, e3, e4, e5⟩ := hI.legIn HKL2.out
          go_simp
          exact hK _ (hI.pure (by simp [updN]))
        intro KK hKK
        go_simp
        refine hKK _ ?_
        clear hKK KK
        apply wpGenC_pure rfl
        · intro L vs wx hI hC hR hL K hK
          go_simp
          refine (ref3Due_any now d'.backoff tl.tries _ hbn.1 hbn.2 hbb.1 hbb.2 hbd.1 hbd.2).mono ?_
          rintro e w' ⟨rfl, rfl⟩
          exact ⟨_, rfl, hK _ (hI.pure (by simp [updN]))⟩
        intro KK hKK
        go_simp
        refine hKK _ ?_
        clear hKK KK
        apply wpGenC_pure rfl
        · intro L vs wx hI hC hR hL K hK
          go_simp
          exact hK _ (hI.pure (by simp [updN]))
        intro KK hKK
        go_simp
        refine hKK _ ?_
        clear hKK KK
        apply wpGenC_pure rfl
        · intro L vs wx hI hC hR hL K hK
          go_simp
          exact hK _ (hI.pure (by simp [updN]))
        intro KK hKK
        go_simp
        refine hKK _ ?_
        clear hKK KK
        apply wpGenC_pure rfl
        · intro L vs wx hI hC hR hL K hK
          obtain ⟨e0, e1, e2, e3, e4, e5⟩ := hI.legIn HKL2.out
          have fz := fun j => hI.frz HS1.out j
          go_simp
          exact hK _ (hI.put (j := 1) HS1.out HKL2.out (by simp [updN, updS, P.Leg.cells]) (by omega))
        intro KK hKK
        go_simp
        refine hKK _ ?_
        clear hKK KK
        apply wpGenC_pure rfl
        · intro L vs wx hI hC hR hL K hK
          go_simp
          exact hK _ (hI.pure (by simp [updN]))
        intro KK hKK
        go_simp
        refine hKK _ ?_
        clear hKK KK
        apply wpGenC_pure rfl
        · intro L vs wx hI hC hR hL K hK
          go_simp
          exact hK _ (hI.pure (by simp [updN]))
        intro KK hKK
        go_simp
        refine hKK _ ?_
        clear hKK KK
        apply wpGenC_pure rfl
        · intro L vs wx hI hC hR hL K hK
          obtain ⟨e0, e1, e2, e3, e4, e5⟩ := hI.legIn HKL2.out
          have fz := fun j => hI.frz HS1.out j
          go_simp
          exact hK _ (hI.put (j := 3) HS1.out HKL2.out (by simp [updN, updS, P.Leg.cells]) (by omega))
        intro KK hKK
        go_simp
        refine hKK _ ?_
        clear hKK KK
        refine wpGenC_nil ?_
        intro vs8 w8 hI8
        have O8 := hI8.own
        simp only [decide_true, if_true, show (18 : Nat) < 22 from by omega, show (21 : Nat) < 22 from by omega] at O8
        have Q12 := Lib.hid (U12.out.grownAt hI8.gr (by omega))
        have Q2 := Lib.hid (U2.out.grownAt hI8.gr (by omega))
        have B8 := Lib.hid (below_gr B7.out hI8.gr (by omega))
        obtain ⟨ls2, hls2⟩ : ∃ ls2, ls2 = ls1.set k { tl with status := 2, due := P.dueAt now d'.backoff tl.tries } := ⟨_, rfl⟩
        have OW8 := Lib.hid (show OwnL w8 w4.heap.size (.slice (some ⟨g2, 0, none⟩) ls.length c3) ls2 from hls2 ▸ O8)
        have HM := Lib.hid (M3.out.trans hls2.symm)
        have L2 := Lib.hid (show ls2.length = ls.length from by rw [hls2, List.length_set]; exact HS1.out)
        clear hI8 O8 M3 hls2
        intro KK2 hKK2
        simp only [List.drop_succ_cons, List.drop_nil]
        obtain ⟨dn2, hdn2⟩ : ∃ dn2, dn2 = P.doneAt st ls2 dn now := ⟨_, rfl⟩
        have HE := Lib.hid (show P.doneOf st ds ls (P.movedTo (P.triedTurn now ds) st ds ls dest reply) dest dn now = dn2 from by rw [HD.out, HM.out, hdn2])
        have FI := finished_any id run tm st dn flt raw (some ⟨g2, 0, none⟩) ls.length c3 ls2 now w8.heap.size w8 (OW8.out.legsAt L2.out) (Nat.le_refl _) (by unfold maxLen; have := HLM.out; omega)
        rw [← hdn2] at FI
        have FI := Lib.hid FI
        clear hdn2
        have c1 := fun i => Q12.out.cell i
        go_wp2_with fail
        refine FI.out.mono ?_
        rintro x w9 ⟨rfl, hb9⟩
        have R2 := Lib.hid (Q2.out.below hb9 Q2.out.lt)
        have B9 := Lib.hid (bt'' B8.out hb9)
        have O9 := Lib.hid (OW8.out.below hb9 (Nat.le_refl _))
        clear hb9 c1
        go_wp2_with (refine wpList_store_blk (cs' := #[.int .i64 id, .int .i64 run, .int .i64 tm, .int .i64 st, .int .i64 dn2, .string raw, .int .i64 flt, .slice (some ⟨g2, 0, none⟩) ls.length c3]) rfl 28 (.tmp 10) (.tmp 77) rfl (w.heap.size + 2) (by rfl) (by rfl) R2.out rfl (by kernel_rfl) (by simp [Value.oneCell']) ?_; intro w10 hk10 hg10; have d2 := fun i => hk10.cell i; have O10 := Lib.hid (O9.out.grownAt hg10 (by simp [Value.ownBlock]; omega)); have B10 := Lib.hid (below_gr B9.out hg10 (by omega)); clear hk10 hg10)
        rw [HE.out, HM.out]
        refine bodyPost_ret (v := .agg #[.int .i64 id, .int .i64 run, .int .i64 tm, .int .i64 st, .int .i64 dn2, .string raw, .int .i64 flt, .slice (some ⟨g2, 0, none⟩) ls.length c3]) (by simp [results, Tryz.results20, go_sem, d2]) rfl ⟨_, rfl, O10.out.less (by omega), B10.out⟩
      · have M3 := Lib.hid (show P.movedTo (P.triedTurn now ds) st ds ls dest reply = P.movedTo (P.failTurn ds) st ds ls dest reply from by rw [M1.out, M2.out, HTT.out])
        have c0 := fun i => U0.out.cell i
        have c1 := fun i => U1.out.cell i
        have F7 := Lib.hid (FD.out w7 B7.out)
        obtain ⟨dn2, hdn2⟩ : ∃ dn2, dn2 = P.doneOf st ds ls (P.movedTo (P.failTurn ds) st ds ls dest reply) dest dn now := ⟨_, rfl⟩
        obtain ⟨ls2, hls2⟩ : ∃ ls2, ls2 = P.movedTo (P.failTurn ds) st ds ls dest reply := ⟨_, rfl⟩
        have HE := Lib.hid (show P.doneOf st ds ls (P.movedTo (P.triedTurn now ds) st ds ls dest reply) dest dn now = dn2 from by rw [M3.out, hdn2])
        have HM := Lib.hid (M3.out.trans hls2.symm)
        rw [← hdn2, ← hls2] at F7
        clear hdn2 hls2 M3
        go_wp2_with fail
        refine F7.out.mono ?_
        rintro x w8 ⟨v, rfl, hown, hb8⟩
        obtain ⟨A8, c8, rfl, -⟩ := hown.reads
        have Q2 := Lib.hid (U2.out.below hb8 U2.out.lt)
        have B8 := Lib.hid (bt'' B7.out hb8)
        have O8 := Lib.hid hown
        have z8 := B7.out.size
        have z7 := S7.out.size
        clear hb8 hown c0 c1
        go_wp2_with (refine wpList_store_blk (cs' := #[.int .i64 id, .int .i64 run, .int .i64 tm, .int .i64 st, .int .i64 dn2, .string raw, .int .i64 flt, .slice A8 ls2.length c8]) rfl 28 (.tmp 10) (.tmp 54) rfl (w.heap.size + 2) (by rfl) (by rfl) Q2.out rfl (by kernel_rfl) (by simp [Value.oneCell']) ?_; intro w9 hk9 hg9; have d2 := fun i => hk9.cell i; have O9 := Lib.hid (O8.out.grownAt hg9 (fun e => by have := (World.ownsRow.lt O8.out _ e).1; omega)); have B9 := Lib.hid (below_gr B8.out hg9 (by omega)); clear hk9 hg9)
        rw [HE.out, HM.out]
        refine bodyPost_ret (v := .agg #[.int .i64 id, .int .i64 run, .int .i64 tm, .int .i64 st, .int .i64 dn2, .string raw, .int .i64 flt, .slice A8 ls2.length c8]) (by simp [results, Tryz.results20, go_sem, d2]) rfl ⟨_, rfl, O9.out.less (by omega), B9.out⟩
end Go.Proofs.YtemjipongehjlaaGreat
