/- What prune.moved returns, whatever the verdict turns. -/
import Derived.Test.YtemjipongehjlaaGreatL7
namespace Go.Proofs.YtemjipongehjlaaGreat
set_option linter.unusedVariables false
open Go.RowKit Go.BigFrame
namespace P
/-- The legs behind a verdict. F: what the verdict makes of the legs, at place k, of the leg that was touched, for its destination. -/
def movedTo (F : List Leg → Nat → Leg → Dest → List Leg) (state : Int) (ds : List Dest) (ls : List Leg) (dest reply : ByteArray) : List Leg :=
  if hasS (next state ds ls) dest = true then match legAt ls dest, destAt ds dest with
    | some k, some kd => match ls[k]?, ds[kd]? with
      | some l, some d => F (ls.set k (touch l reply)) k (touch l reply) d
      | _, _ => ls
    | _, _ => ls
  else ls
theorem movedTo_no {F : List Leg → Nat → Leg → Dest → List Leg} {state : Int} {ds : List Dest} {ls : List Leg} {dest reply : ByteArray} (h : hasS (next state ds ls) dest = false) : movedTo F state ds ls dest reply = ls := by
  unfold movedTo; rw [h]; rfl
theorem movedTo_yes {F : List Leg → Nat → Leg → Dest → List Leg} {state : Int} {ds : List Dest} {ls : List Leg} {dest reply : ByteArray} {k kd : Nat} {l : Leg} {d : Dest} (h : hasS (next state ds ls) dest = true) (hk : legAt ls dest = some k) (hl : ls[k]? = some l) (hk2 : destAt ds dest = some kd) (hd : ds[kd]? = some d) :
    movedTo F state ds ls dest reply = F (ls.set k (touch l reply)) k (touch l reply) d := by
  unfold movedTo
  rw [if_pos h, hk, hk2]
  simp only [hl, hd]
end P
theorem OwnL.len {w : World} {B g c m : Nat} {l : List P.Leg} (h : OwnL w B (.slice (some ⟨g, 0, none⟩) m c) l) : l.length = m := by
  rcases h.2 with ⟨h1, _⟩ | ⟨g', cap, cur, hv, _⟩
  · cases h1
  · injection hv with _ h2 _
    exact h2.symm
/-- What is asked of a verdict's function. -/
def Turns (f : FuncId) (caps : Array Value) (F : List P.Leg → Nat → P.Leg → P.Dest → List P.Leg) (id run tm st dn flt : Int) (raw : ByteArray) (ds : List P.Dest) (ls : List P.Leg) (reply : ByteArray) (w : World) : Prop :=
  ∀ (W : World) (g k rb c2 : Nat) (l : P.Leg) (d : P.Dest) (Bo : Nat), Below w.heap.size w W → OwnL W Bo (.slice (some ⟨g, 0, none⟩) ls.length c2) (ls.set k (P.touch l reply)) → ls[k]? = some l → d ∈ ds →
    Blk W rb 28 #[.int .i64 id, .int .i64 run, .int .i64 tm, .int .i64 st, .int .i64 dn, .string raw, .int .i64 flt, .slice (some ⟨g, 0, none⟩) ls.length c2] → w.heap.size ≤ g → rb ≠ g → g < W.heap.size →
    Calls Tryz.prog f (#[.pointer (some ⟨g, k * 6, none⟩), .agg #[.string d.name, .int .i64 d.chain, .bool d.file, .int .i64 d.port, .string d.dir, .int .i64 d.retry, .int .i64 d.backoff, .int .i64 d.timeout, .string d.response], .pointer (some ⟨rb, 0, none⟩)] ++ caps) W fun e w' => e = .returned (.tuple #[]) ∧ OwnL w' Bo (.slice (some ⟨g, 0, none⟩) ls.length c2) (F (ls.set k (P.touch l reply)) k (P.touch l reply) d) ∧ W.grownBy w' (some g)
set_option maxRecDepth 100000 in
set_option maxHeartbeats 4000000 in
theorem moved_any (f : FuncId) (caps : Array Value) (F : List P.Leg → Nat → P.Leg → P.Dest → List P.Leg) (cn cd cpre cfil ctr : ByteArray) (cf : Bool) (cpt crt : Int) (D : Option Addr) (n dc : Nat) (ds : List P.Dest) (id run tm st dn flt : Int) (raw : ByteArray) (A : Option Addr) (m cp : Nat) (ls : List P.Leg) (dest reply : ByteArray) (now : Int) (B : Nat) (w : World)
    (h : LegsAt w B A m ls) (hd : DestsAt w B D n ds) (hB : B ≤ w.heap.size) (hm : m ≤ 1099511627776) (hn : n ≤ 1099511627776) (hw : ∀ d ∈ ds, (Lit.int .i64 d.chain).wf = true) (ht : ∀ l ∈ ls, (Lit.int .i64 l.tries).wf = true) (hr : reply.size ≤ maxLen) (heg : ∀ args w, (callFunc f args).run Tryz.prog w = .ok (.enter f args) w) (hturn : Turns f caps F id run tm st dn flt raw ds ls reply w) :
    Calls Tryz.prog 33 #[.agg #[.string cn, .bool cf, .int .i64 cpt, .string cd, .string cpre, .string cfil, .string ctr, .slice D n dc, .int .i64 crt], .agg #[.int .i64 id, .int .i64 run, .int .i64 tm, .int .i64 st, .int .i64 dn, .string raw, .int .i64 flt, .slice A m cp], .string dest, .string reply, .int .i64 now, .func (.func f) #[] caps] w (GivesR w id run tm st (P.doneOf st ds ls (P.movedTo F st ds ls dest reply) dest dn now) flt raw (P.movedTo F st ds ls dest reply)) := by
  have hb := ((((Below.refl w.heap.size w).alloc (Nat.le_refl _) (.cells #[.string cn, .bool cf, .int .i64 cpt, .string cd, .string cpre, .string cfil, .string ctr, .slice D n dc, .int .i64 crt] 24)).alloc (by simp) (.cells #[.int .i64 id, .int .i64 run, .int .i64 tm, .int .i64 st, .int .i64 dn, .string raw, .int .i64 flt, .slice A m cp] 28)).alloc (by simp; omega) (.cells #[.string dest] 9)).alloc (by simp; omega) (.cells #[.int .i64 0, .int .i64 0, .int .i64 0, .int .i64 0, .int .i64 0, .string ⟨#[]⟩, .int .i64 0, .slice none 0 0] 28)
  have k0 := (((Blk.new w 24 #[.string cn, .bool cf, .int .i64 cpt, .string cd, .string cpre, .string cfil, .string ctr, .slice D n dc, .int .i64 crt]).alloc (.cells #[.int .i64 id, .int .i64 run, .int .i64 tm, .int .i64 st, .int .i64 dn, .string raw, .int .i64 flt, .slice A m cp] 28)).alloc (.cells #[.string dest] 9)).alloc (.cells #[.int .i64 0, .int .i64 0, .int .i64 0, .int .i64 0, .int .i64 0, .string ⟨#[]⟩, .int .i64 0, .slice none 0 0] 28)
  have k1 := ((Blk.new (w.alloc (.cells #[.string cn, .bool cf, .int .i64 cpt, .string cd, .string cpre, .string cfil, .string ctr, .slice D n dc, .int .i64 crt] 24)) 28 #[.int .i64 id, .int .i64 run, .int .i64 tm, .int .i64 st, .int .i64 dn, .string raw, .int .i64 flt, .slice A m cp]).alloc (.cells #[.string dest] 9)).alloc (.cells #[.int .i64 0, .int .i64 0, .int .i64 0, .int .i64 0, .int .i64 0, .string ⟨#[]⟩, .int .i64 0, .slice none 0 0] 28)
  have k2 := (Blk.new ((w.alloc (.cells #[.string cn, .bool cf, .int .i64 cpt, .string cd, .string cpre, .string cfil, .string ctr, .slice D n dc, .int .i64 crt] 24)).alloc (.cells #[.int .i64 id, .int .i64 run, .int .i64 tm, .int .i64 st, .int .i64 dn, .string raw, .int .i64 flt, .slice A m cp] 28)) 9 #[.string dest]).alloc (.cells #[.int .i64 0, .int .i64 0, .int .i64 0, .int .i64 0, .int .i64 0, .string ⟨#[]⟩, .int .i64 0, .slice none 0 0] 28)
  have k3 := Blk.new (((w.alloc (.cells #[.string cn, .bool cf, .int .i64 cpt, .string cd, .string cpre, .string cfil, .string ctr, .slice D n dc, .int .i64 crt] 24)).alloc (.cells #[.int .i64 id, .int .i64 run, .int .i64 tm, .int .i64 st, .int .i64 dn, .string raw, .int .i64 flt, .slice A m cp] 28)).alloc (.cells #[.string dest] 9)) 28 #[.int .i64 0, .int .i64 0, .int .i64 0, .int .i64 0, .int .i64 0, .string ⟨#[]⟩, .int .i64 0, .slice none 0 0]
  rw [show (w.alloc (.cells #[.string cn, .bool cf, .int .i64 cpt, .string cd, .string cpre, .string cfil, .string ctr, .slice D n dc, .int .i64 crt] 24)).heap.size = w.heap.size + 1 from by simp] at k1
  rw [show ((w.alloc (.cells #[.string cn, .bool cf, .int .i64 cpt, .string cd, .string cpre, .string cfil, .string ctr, .slice D n dc, .int .i64 crt] 24)).alloc (.cells #[.int .i64 id, .int .i64 run, .int .i64 tm, .int .i64 st, .int .i64 dn, .string raw, .int .i64 flt, .slice A m cp] 28)).heap.size = w.heap.size + 2 from by simp] at k2
  rw [show (((w.alloc (.cells #[.string cn, .bool cf, .int .i64 cpt, .string cd, .string cpre, .string cfil, .string ctr, .slice D n dc, .int .i64 crt] 24)).alloc (.cells #[.int .i64 id, .int .i64 run, .int .i64 tm, .int .i64 st, .int .i64 dn, .string raw, .int .i64 flt, .slice A m cp] 28)).alloc (.cells #[.string dest] 9)).heap.size = w.heap.size + 3 from by simp] at k3
  have hz : ((((w.alloc (.cells #[.string cn, .bool cf, .int .i64 cpt, .string cd, .string cpre, .string cfil, .string ctr, .slice D n dc, .int .i64 crt] 24)).alloc (.cells #[.int .i64 id, .int .i64 run, .int .i64 tm, .int .i64 st, .int .i64 dn, .string raw, .int .i64 flt, .slice A m cp] 28)).alloc (.cells #[.string dest] 9)).alloc (.cells #[.int .i64 0, .int .i64 0, .int .i64 0, .int .i64 0, .int .i64 0, .string ⟨#[]⟩, .int .i64 0, .slice none 0 0] 28)).heap.size = w.heap.size + 4 := by simp
  have H := Lib.hid h
  have HD := Lib.hid hd
  have HW := Lib.hid hw
  have HT := Lib.hid ht
  have TU := Lib.hid hturn
  have KC := Lib.hid (copied_any id run tm st dn flt raw A m cp ls B _ (h.below (hb.mono hB)) (Nat.le_trans hB hb.size) hm)
  have HB := Lib.hid hb
  have K0 := Lib.hid k0
  have K1 := Lib.hid k1
  have K2 := Lib.hid k2
  have K3 := Lib.hid k3
  have HZ := Lib.hid hz
  clear hturn h hd hw ht k0 k1 k2 k3 hb hz
  go_enter Tryz.func33, Tryz.ntmps33
  go_wp2_with fail
  refine KC.out.mono ?_
  rintro x w2 ⟨v, rfl, hown, hb2⟩
  obtain ⟨A2, c2, rfl, -⟩ := hown.reads
  rw [HZ.out] at hown
  have Z2 : w.heap.size + 4 ≤ w2.heap.size := by have := hb2.size; rw [HZ.out] at this; exact this
  have X0 := Lib.hid ((K0.out.below hb2 K0.out.lt).alloc (.cells #[.int .i64 id, .int .i64 run, .int .i64 tm, .int .i64 st, .int .i64 dn, .string raw, .int .i64 flt, .slice A2 ls.length c2] 28))
  have X1 := Lib.hid ((K1.out.below hb2 K1.out.lt).alloc (.cells #[.int .i64 id, .int .i64 run, .int .i64 tm, .int .i64 st, .int .i64 dn, .string raw, .int .i64 flt, .slice A2 ls.length c2] 28))
  have X2 := Lib.hid ((K2.out.below hb2 K2.out.lt).alloc (.cells #[.int .i64 id, .int .i64 run, .int .i64 tm, .int .i64 st, .int .i64 dn, .string raw, .int .i64 flt, .slice A2 ls.length c2] 28))
  have X3 := Lib.hid ((K3.out.below hb2 K3.out.lt).alloc (.cells #[.int .i64 id, .int .i64 run, .int .i64 tm, .int .i64 st, .int .i64 dn, .string raw, .int .i64 flt, .slice A2 ls.length c2] 28))
  have X4 := Lib.hid (Blk.new w2 28 #[.int .i64 id, .int .i64 run, .int .i64 tm, .int .i64 st, .int .i64 dn, .string raw, .int .i64 flt, .slice A2 ls.length c2])
  have B2 := Lib.hid ((HB.out.trans (hb2.mono HB.out.size)).alloc (Nat.le_trans HB.out.size hb2.size) (.cells #[.int .i64 id, .int .i64 run, .int .i64 tm, .int .i64 st, .int .i64 dn, .string raw, .int .i64 flt, .slice A2 ls.length c2] 28))
  have OWn := Lib.hid hown
  have OW := Lib.hid (hown.alloc (.cells #[.int .i64 id, .int .i64 run, .int .i64 tm, .int .i64 st, .int .i64 dn, .string raw, .int .i64 flt, .slice A2 ls.length c2] 28))
  clear hb2 hown
  have NC := Lib.hid (fun W (hW : Below w.heap.size w W) => next_any id run tm st dn flt raw A m cp ls cn cd cpre cfil ctr cf cpt crt D n dc ds B W (H.out.below (hW.mono hB)) (HD.out.below (hW.mono hB)) (Nat.le_trans hB hW.size) (by unfold maxLen; omega) hn HW.out)
  have hz2 : (w2.alloc (.cells #[.int .i64 id, .int .i64 run, .int .i64 tm, .int .i64 st, .int .i64 dn, .string raw, .int .i64 flt, .slice A2 ls.length c2] 28)).heap.size = w2.heap.size + 1 := by simp
  have HZ2 := Lib.hid hz2
  clear hz2
  cases hb : P.hasS (P.next st ds ls) dest
  · have HBB := Lib.hid hb
    have HN := Lib.hid (P.movedTo_no (F := F) (reply := reply) hb)
    have HN2 := Lib.hid (show P.doneOf st ds ls (P.movedTo F st ds ls dest reply) dest dn now = dn from by unfold P.doneOf; rw [hb]; rfl)
    clear hb
    go_wp2_with fail
    refine wp_region_free 6 [] Stays (fun | 2 => some fun v w' => OwnS w' (w2.heap.size + 1) v (P.next st ds ls) | _ => none) (by kernel_rfl) (by kernel_rfl) Stays.refl (by simp) (Stays.draw _) Stays.trans ?_ ?_
    · intro j φ v x y hB hp hxy
      split at hB <;> cases hB
      exact hp.stays hxy
    · apply wpFree_pure rfl rfl
      · intro vs wx hk K hK
        have c0 := fun i => (X0.out.stays hk.1).cell i
        go_simp
        exact hK _ (Stays.refl _)
      intro KK hKK
      go_simp
      refine hKK _ ?_
      clear hKK KK
      apply wpFree_pure rfl rfl
      · intro vs wx hk K hK
        have c1 := fun i => (X1.out.stays hk.1).cell i
        go_simp
        exact hK _ (Stays.refl _)
      intro KK hKK
      go_simp
      refine hKK _ ?_
      clear hKK KK
      refine wpFree_fact rfl ?_ ?_
      · intro vs wx hk K hK
        have hW := bt' B2.out hk.1
        have hsz := hk.1.size
        rw [HZ2.out] at hsz
        go_simp
        exact (NC.out _ hW).mono fun x w' ⟨v, hx, ho, hb'⟩ => ⟨v, hx, hK _ _ hb' (ho.less hsz)⟩
      intro KK hKK
      go_simp
      refine hKK _ ?_
      clear hKK KK
      apply wpFree_pure rfl rfl
      · intro vs wx hk K hK
        have c2' := fun i => (X2.out.stays hk.1).cell i
        go_simp
        exact hK _ (Stays.refl _)
      intro KK hKK
      go_simp
      refine hKK _ ?_
      clear hKK KK
      apply wpFree_pure rfl rfl
      · intro vs wx hk K hK
        obtain ⟨A3, c3, hv, hs⟩ := OwnS.reads (hk.2 2 _ rfl (by kernel_rfl))
        have CC := contains_any A3 _ c3 (P.next st ds ls) dest wx.heap.size wx hs (by have := P.next_le st ds ls; have := HD.out.len; unfold maxLen; omega)
        rw [HBB.out] at CC
        go_simp
        first
          | exact hK _ (Stays.refl _)
          | exact Calls.free hK (CC.mono fun e w' ⟨he, hw'⟩ => ⟨he, hw' ▸ Stays.refl _⟩)
      intro KK hKK
      go_simp
      refine hKK _ ?_
      clear hKK KK
      apply wpFree_pure rfl rfl
      · intro vs wx hk K hK
        go_simp
        exact hK _ (Stays.refl _)
      intro KK hKK
      go_simp
      refine hKK _ ?_
      clear hKK KK
      refine wpFree_nil ?_
      intro vs w4 hs4 _
      intro KK hKK
      simp only [List.drop_succ_cons, List.drop_nil]
      have Y0 := Lib.hid (X0.out.stays hs4)
      have Y1 := Lib.hid (X1.out.stays hs4)
      have Y2 := Lib.hid (X2.out.stays hs4)
      have Y3 := Lib.hid (X3.out.stays hs4)
      have Y4 := Lib.hid (X4.out.stays hs4)
      have B4 := Lib.hid (bt' B2.out hs4)
      have OW4 := Lib.hid (OW.out.stays hs4)
      have Z4 : w2.heap.size + 1 ≤ w4.heap.size := by have := hs4.size; rw [HZ2.out] at this; exact this
      clear hs4
      have c4 := fun i => Y4.out.cell i
      have f4 := fun i => Y4.out.frozen i
      have c3 := fun i => Y3.out.cell i
      have f3 := fun i => Y3.out.frozen i
      go_wp2
      rw [HN2.out, HN.out]
      refine bodyPost_ret (v := .agg #[.int .i64 id, .int .i64 run, .int .i64 tm, .int .i64 st, .int .i64 dn, .string raw, .int .i64 flt, .slice A2 ls.length c2]) (by simp [results, Tryz.results33, go_sem, c3]) rfl ⟨_, rfl, ?_, ?_⟩
      · refine OwnL.less (B := w.heap.size + 4) ?_ (by omega)
        repeat (refine OwnL.far ?_ (by simp) _)
        exact OW4.out
      · repeat (refine Below.setCell ?_ (by simp; omega) _)
        exact B4.out
  · have HBB := Lib.hid hb
    obtain ⟨hst, ⟨k, l, hk1, hk2, hl, ho, hkl⟩, kd, d, hd1, hd2, hdd, hkd⟩ := P.turned_key hb
    have HN := Lib.hid (P.movedTo_yes (F := F) (reply := reply) hb hk1 hl hd1 hdd)
    have HN2 := Lib.hid (show P.doneOf st ds ls (P.movedTo F st ds ls dest reply) dest dn now = if P.terminal st (P.movedTo F st ds ls dest reply) = true ∧ dn = -1 then now else dn from by unfold P.doneOf; rw [if_pos hb])
    have hnd := HD.out.len
    obtain ⟨ad, d', rfl, hdb, hdd', hdc⟩ := HD.out.in_ (k := kd) (by omega)
    obtain rfl : d' = d := Option.some.inj (hdd'.symm.trans hdd)
    obtain ⟨g2, cap, hv, hgb, hgl⟩ := World.ownsRow.form OWn.out (by omega)
    obtain ⟨rfl, rfl⟩ : A2 = some ⟨g2, 0, none⟩ ∧ c2 = cap := by injection hv; exact ⟨by assumption, by assumption⟩
    have DI := Lib.hid hdc
    have HK2 := Lib.hid hk2
    have HL := Lib.hid hl
    have HD2 := Lib.hid hd2
    have hwt := HT.out l (List.mem_of_getElem? hl)
    have HDM := Lib.hid (List.mem_of_getElem? hdd)
    clear hb hst hk1 hk2 hl ho hd1 hd2 hdd hdd' hdc hv
    have HLM := Lib.hid (show ls.length = m from H.out.len)
    have hkn : kd < n := by omega
    clear hnd
    go_wp2_with fail
    refine wp_region_free 6 [] Stays (fun | 2 => some fun v w' => OwnS w' (w2.heap.size + 1) v (P.next st ds ls) | _ => none) (by kernel_rfl) (by kernel_rfl) Stays.refl (by simp) (Stays.draw _) Stays.trans ?_ ?_
    · intro j φ v x y hB hp hxy
      split at hB <;> cases hB
      exact hp.stays hxy
    · apply wpFree_pure rfl rfl
      · intro vs wx hk K hK
        have c0 := fun i => (X0.out.stays hk.1).cell i
        go_simp
        exact hK _ (Stays.refl _)
      intro KK hKK
      go_simp
      refine hKK _ ?_
      clear hKK KK
      apply wpFree_pure rfl rfl
      · intro vs wx hk K hK
        have c1 := fun i => (X1.out.stays hk.1).cell i
        go_simp
        exact hK _ (Stays.refl _)
      intro KK hKK
      go_simp
      refine hKK _ ?_
      clear hKK KK
      refine wpFree_fact rfl ?_ ?_
      · intro vs wx hk K hK
        have hW := bt' B2.out hk.1
        have hsz := hk.1.size
        rw [HZ2.out] at hsz
        go_simp
        exact (NC.out _ hW).mono fun x w' ⟨v, hx, ho, hb'⟩ => ⟨v, hx, hK _ _ hb' (ho.less hsz)⟩
      intro KK hKK
      go_simp
      refine hKK _ ?_
      clear hKK KK
      apply wpFree_pure rfl rfl
      · intro vs wx hk K hK
        have c2' := fun i => (X2.out.stays hk.1).cell i
        go_simp
        exact hK _ (Stays.refl _)
      intro KK hKK
      go_simp
      refine hKK _ ?_
      clear hKK KK
      apply wpFree_pure rfl rfl
      · intro vs wx hk K hK
        obtain ⟨A3, c3, hv, hs⟩ := OwnS.reads (hk.2 2 _ rfl (by kernel_rfl))
        have CC := contains_any A3 _ c3 (P.next st ds ls) dest wx.heap.size wx hs (by have := P.next_le st ds ls; have := HD.out.len; unfold maxLen; omega)
        rw [HBB.out] at CC
        go_simp
        first
          | exact hK _ (Stays.refl _)
          | exact Calls.free hK (CC.mono fun e w' ⟨he, hw'⟩ => ⟨he, hw' ▸ Stays.refl _⟩)
      intro KK hKK
      go_simp
      refine hKK _ ?_
      clear hKK KK
      apply wpFree_pure rfl rfl
      · intro vs wx hk K hK
        go_simp
        exact hK _ (Stays.refl _)
      intro KK hKK
      go_simp
      refine hKK _ ?_
      clear hKK KK
      refine wpFree_nil ?_
      intro vs w4 hs4 _
      intro KK hKK
      simp only [List.drop_succ_cons, List.drop_nil]
      have Y0 := Lib.hid (X0.out.stays hs4)
      have Y1 := Lib.hid (X1.out.stays hs4)
      have Y2 := Lib.hid (X2.out.stays hs4)
      have Y3 := Lib.hid (X3.out.stays hs4)
      have Y4 := Lib.hid (X4.out.stays hs4)
      have B4 := Lib.hid (bt' B2.out hs4)
      have OW4 := Lib.hid (OW.out.stays hs4)
      have Z4 : w2.heap.size + 1 ≤ w4.heap.size := by have := hs4.size; rw [HZ2.out] at this; exact this
      clear hs4
      go_wp2_with fail
      refine wp_region_free 9 [] Stays (fun | 8 => some fun v w' => ∃ g, v = .pointer (some ⟨g, 0, none⟩) ∧ w4.heap.size ≤ g ∧ Blk w' g 67 #[.string ⟨#[]⟩, .int .i64 0, .bool false, .int .i64 0, .string ⟨#[]⟩, .int .i64 0, .int .i64 0, .int .i64 0, .string ⟨#[]⟩] | _ => none) (by kernel_rfl) (by kernel_rfl) Stays.refl (by simp) (Stays.draw _) Stays.trans ?_ ?_
      · intro j φ v x y hB hp hxy
        split at hB <;> cases hB
        obtain ⟨g, hg, h1, hb⟩ := hp
        exact ⟨g, hg, h1, hb.stays hxy⟩
      · apply wpFree_pure rfl rfl
        · intro vs wx hk K hK
          go_simp
          exact hK _ (Stays.refl _)
        intro KK hKK
        go_simp
        refine hKK _ ?_
        clear hKK KK
        apply wpFree_pure rfl rfl
        · intro vs wx hk K hK
          have c0 := fun i => (Y0.out.stays hk.1).cell i
          go_simp
          exact hK _ (Stays.refl _)
        intro KK hKK
        go_simp
        refine hKK _ ?_
        clear hKK KK
        apply wpFree_pure rfl rfl
        · intro vs wx hk K hK
          go_simp
          exact hK _ (Stays.refl _)
        intro KK hKK
        go_simp
        refine hKK _ ?_
        clear hKK KK
        apply wpFree_pure rfl rfl
        · intro vs wx hk K hK
          have c0 := fun i => (Y0.out.stays hk.1).cell i
          go_simp
          exact hK _ (Stays.refl _)
        intro KK hKK
        go_simp
        refine hKK _ ?_
        clear hKK KK
        apply wpFree_pure rfl rfl
        · intro vs wx hk K hK
          go_simp
          exact hK _ (Stays.refl _)
        intro KK hKK
        go_simp
        refine hKK _ ?_
        clear hKK KK
        apply wpFree_pure rfl rfl
        · intro vs wx hk K hK
          have hW := bt' B4.out hk.1
          have CI := indexDest_any (some ad) n dc ds dest (w.heap.size + 2) B wx (HD.out.below (hW.mono hB)) (Nat.le_trans hB hW.size) (by unfold maxLen; omega) (by have := (Y2.out.stays hk.1).lt; exact this) ((Y2.out.stays hk.1).cell 0)
          rw [HD2.out] at CI
          go_simp
          first
            | exact hK _ (Stays.refl _)
            | exact Calls.free hK CI
        intro KK hKK
        go_simp
        refine hKK _ ?_
        clear hKK KK
        apply wpFree_pure rfl rfl
        · intro vs wx hk K hK
          go_simp
          exact hK _ (Stays.refl _)
        intro KK hKK
        go_simp
        refine hKK _ ?_
        clear hKK KK
        apply wpFree_pure rfl rfl
        · intro vs wx hk K hK
          have hW := bt' B4.out hk.1
          obtain ⟨c0, c1, c2, c3, c4, c5, c6, c7, c8⟩ := DI.out.keep (hW.mono hB) hdb
          go_simp
          exact hK _ (Stays.refl _)
        intro KK hKK
        go_simp
        refine hKK _ ?_
        clear hKK KK
        refine wpFree_fact rfl ?_ ?_
        · intro vs wx hk K hK
          go_simp
          exact hK _ _ (Stays.alloc _ _) ⟨_, rfl, hk.1.size, Blk.new _ _ _⟩
        intro KK hKK
        go_simp
        refine hKK _ ?_
        clear hKK KK
        refine wpFree_nil ?_
        intro vs4 w5 hs5 hf5
        obtain ⟨g14, hg14, hge, hb14⟩ := hf5 8 _ (by omega) rfl
        intro KK2 hKK2
        rw [hg14]
        clear hf5
        simp only [List.drop_succ_cons, List.drop_zero]
        refine wpList_store_mid rfl 67 (.tmp 14) (.tmp 32) rfl g14 0 #[.string d'.name, .int .i64 d'.chain, .bool d'.file, .int .i64 d'.port, .string d'.dir, .int .i64 d'.retry, .int .i64 d'.backoff, .int .i64 d'.timeout, .string d'.response] rfl rfl (hb14.there 9 (by simp)) (by kernel_rfl) (by simp [Value.oneCell']) ?_
        have k14 := hb14.set9 (a := .string d'.name) (b := .int .i64 d'.chain) (c := .bool d'.file) (d := .int .i64 d'.port) (e := .string d'.dir) (f := .int .i64 d'.retry) (g9 := .int .i64 d'.backoff) (h := .int .i64 d'.timeout) (i := .string d'.response)
        have B6 : Below w4.heap.size w4 (w5.setCells g14 0 [.string d'.name, .int .i64 d'.chain, .bool d'.file, .int .i64 d'.port, .string d'.dir, .int .i64 d'.retry, .int .i64 d'.backoff, .int .i64 d'.timeout, .string d'.response]) := below_setCells hs5 hge _ _
        generalize w5.setCells g14 0 [.string d'.name, .int .i64 d'.chain, .bool d'.file, .int .i64 d'.port, .string d'.dir, .int .i64 d'.retry, .int .i64 d'.backoff, .int .i64 d'.timeout, .string d'.response] = w6 at *
        have B66 := Lib.hid (B4.out.trans (B6.mono B4.out.size))
        have V2 := Lib.hid (Y2.out.below B6 Y2.out.lt)
        have V3 := Lib.hid (Y3.out.below B6 Y3.out.lt)
        have V4 := Lib.hid (Y4.out.below B6 Y4.out.lt)
        have OW6 := Lib.hid (OW4.out.below B6 (Nat.le_refl _))
        have K14 := Lib.hid k14
        have hg2 : g2 < w4.heap.size := by omega
        have hz6 : w4.heap.size ≤ w6.heap.size := B6.size
        clear hs5 hb14 hg14 k14 B6
        have LG := Lib.hid (show LegsAt w6 w6.heap.size (some ⟨g2, 0, none⟩) ls.length ls from Reads.of_own OW6.out)
        have hln : ls.length ≤ 1099511627776 := by have := HLM.out; omega
        go_wp2_with fail
        refine wp_region_free 7 [] Stays (fun _ => none) (by kernel_rfl) (by kernel_rfl) Stays.refl (by simp) (Stays.draw _) Stays.trans (fun j φ v x y hB => by cases hB) ?_
        apply wpFree_pure rfl rfl
        · intro vs wx hk K hK
          go_simp
          exact hK _ (Stays.refl _)
        intro KK hKK
        go_simp
        refine hKK _ ?_
        clear hKK KK
        apply wpFree_pure rfl rfl
        · intro vs wx hk K hK
          have c4 := fun i => (V4.out.stays hk.1).cell i
          go_simp
          exact hK _ (Stays.refl _)
        intro KK hKK
        go_simp
        refine hKK _ ?_
        clear hKK KK
        apply wpFree_pure rfl rfl
        · intro vs wx hk K hK
          have c4 := fun i => (V4.out.stays hk.1).cell i
          go_simp
          exact hK _ (Stays.refl _)
        intro KK hKK
        go_simp
        refine hKK _ ?_
        clear hKK KK
        apply wpFree_pure rfl rfl
        · intro vs wx hk K hK
          have c2' := fun i => (V2.out.stays hk.1).cell i
          go_simp
          exact hK _ (Stays.refl _)
        intro KK hKK
        go_simp
        refine hKK _ ?_
        clear hKK KK
        apply wpFree_pure rfl rfl
        · intro vs wx hk K hK
          have CL := leg_any id run tm st dn flt raw (some ⟨g2, 0, none⟩) ls.length c2 ls dest w6.heap.size wx (LG.out.below hk.1) hk.1.size (by unfold maxLen; omega)
          rw [HK2.out] at CL
          go_simp
          first
            | exact hK _ (Stays.refl _)
            | exact Calls.free hK CL
        intro KK hKK
        go_simp
        refine hKK _ ?_
        clear hKK KK
        apply wpFree_pure rfl rfl
        · intro vs wx hk K hK
          go_simp
          exact hK _ (Stays.refl _)
        intro KK hKK
        go_simp
        refine hKK _ ?_
        clear hKK KK
        apply wpFree_pure rfl rfl
        · intro vs wx hk K hK
          go_simp
          exact hK _ (Stays.refl _)
        intro KK hKK
        go_simp
        refine hKK _ ?_
        clear hKK KK
        refine wpFree_nil ?_
        intro vs5 w7 hs7 _
        intro KK3 hKK3
        simp only [List.drop_succ_cons, List.drop_nil]
        have B7 := Lib.hid (bt' B66.out hs7)
        have U3 := Lib.hid (V3.out.stays hs7)
        have U4 := Lib.hid (V4.out.stays hs7)
        have U14 := Lib.hid (K14.out.stays hs7)
        have OW7 := Lib.hid (OW6.out.stays hs7)
        have hz7 : w4.heap.size ≤ w7.heap.size := Nat.le_trans hz6 hs7.size
        clear hs7
        obtain ⟨e0, e1, e2, e3, e4, e5⟩ := OW7.out.legIn HL.out
        have fz := fun j => World.ownsRow.frozenAt OW7.out j
        have hbt : -9223372036854775808 ≤ l.tries ∧ l.tries ≤ 9223372036854775807 := by
          have := bounds_i64 hwt
          omega
        go_wp2_with fail
        refine (add_any l.tries 1 _ hbt.1 hbt.2 (by omega) (by omega)).mono ?_
        rintro x w8 ⟨rfl, rfl⟩
        go_wp2_with fail
        have HCL := Lib.hid (show reply.extract 0 (min (reply.size : Int) 200).toNat = P.clip reply from by unfold P.clip; congr 1; omega)
        have own8 := OW7.out.put (l' := { l with tries := P.add l.tries 1 }) (j := 2) (u := .int .i64 (P.add l.tries 1)) rfl HL.out rfl (by omega)
        have HL8 := Lib.hid (show (ls.set k { l with tries := P.add l.tries 1 })[k]? = some { l with tries := P.add l.tries 1 } from by rw [List.getElem?_set_self (by omega)])
        have W8 := Lib.hid (B7.out.setCell (p := ⟨g2, k * 6 + 2, none⟩) (by simp; omega) (.int .i64 (P.add l.tries 1)))
        have R3 := Lib.hid (U3.out.far (p := ⟨g2, k * 6 + 2, none⟩) (by simp; omega) (.int .i64 (P.add l.tries 1)))
        have R4 := Lib.hid (U4.out.far (p := ⟨g2, k * 6 + 2, none⟩) (by simp; omega) (.int .i64 (P.add l.tries 1)))
        have R14 := Lib.hid (U14.out.far (p := ⟨g2, k * 6 + 2, none⟩) (by simp; omega) (.int .i64 (P.add l.tries 1)))
        have O8 := Lib.hid own8
        clear e0 e1 e2 e3 e4 e5 fz own8
        refine (stringsClone_any _ _ (by rw [HCL.out]; unfold P.clip; simp; omega)).mono ?_
        rintro x w8 ⟨rfl, hb8⟩
        rw [HCL.out]
        have S3 := Lib.hid (R3.out.below hb8 R3.out.lt)
        have S4 := Lib.hid (R4.out.below hb8 R4.out.lt)
        have S14 := Lib.hid (R14.out.below hb8 R14.out.lt)
        have O9 := Lib.hid (O8.out.below hb8 (Nat.le_refl _))
        have W9 := Lib.hid (bt'' W8.out hb8)
        have hz8 : w4.heap.size ≤ w8.heap.size := by have := hb8.size; simp at this; omega
        clear hb8
        obtain ⟨e0, e1, e2, e3, e4, e5⟩ := O9.out.legIn HL8.out
        have fz := fun j => O9.out.frz (by rw [List.length_set]) j
        have c14 := fun i => S14.out.cell i
        go_wp2_with fail
        have own9 := O9.out.put (l' := P.touch l reply) (j := 5) (u := .string (P.clip reply)) (by rw [List.length_set]) HL8.out rfl (by omega)
        rw [List.set_set] at own9
        have HL9 := Lib.hid (show (ls.set k (P.touch l reply))[k]? = some (P.touch l reply) from by rw [List.getElem?_set_self (by omega)])
        have W9' := Lib.hid (W9.out.setCell (p := ⟨g2, k * 6 + 5, none⟩) (by simp; omega) (.string (P.clip reply)))
        have S3' := Lib.hid (S3.out.far (p := ⟨g2, k * 6 + 5, none⟩) (by simp; omega) (.string (P.clip reply)))
        have S4' := Lib.hid (S4.out.far (p := ⟨g2, k * 6 + 5, none⟩) (by simp; omega) (.string (P.clip reply)))
        refine (TU.out _ g2 k w2.heap.size c2 l d' _ W9'.out own9 HL.out HDM.out S4'.out (by omega) (by omega) (by simp [World.setCell]; omega)).mono ?_
        rintro x w9 ⟨rfl, o11, g11⟩
        have z9 := g11.size
        have W11 := Lib.hid (W9'.out.trans (below_grown g11 (by have := W9'.out.size; omega) (by omega)))
        have T3 := Lib.hid (S3'.out.grownAt g11 (by omega))
        have T4 := Lib.hid (S4'.out.grownAt g11 (by omega))
        have O11 := Lib.hid o11
        have L11 := Lib.hid o11.len
        clear e0 e1 e2 e3 e4 e5 fz c14 own9 o11 g11 z9
        obtain ⟨ls9, hls9⟩ : ∃ ls9, ls9 = F (ls.set k (P.touch l reply)) k (P.touch l reply) d' := ⟨_, rfl⟩
        rw [← hls9] at O11 L11
        have HN' := Lib.hid (HN.out.trans hls9.symm)
        clear HN hls9
        have LG9 := Lib.hid (show LegsAt w9 w9.heap.size (some ⟨g2, 0, none⟩) ls.length ls9 from O11.out.legsAt L11.out)
        have c4 := fun i => T4.out.cell i
        go_wp2_with fail
        refine (terminal_any id run tm st dn flt raw (some ⟨g2, 0, none⟩) ls.length c2 ls9 w9.heap.size w9 LG9.out (Nat.le_refl _) (by unfold maxLen; omega)).mono ?_
        rintro x w10 ⟨rfl, hb10⟩
        have P3 := Lib.hid (T3.out.below hb10 T3.out.lt)
        have P4 := Lib.hid (T4.out.below hb10 T4.out.lt)
        have O12 := Lib.hid (O11.out.below hb10 (Nat.le_refl _))
        have W12 := Lib.hid (bt'' W11.out hb10)
        clear hb10 c4
        have c4 := fun i => P4.out.cell i
        have f4 := fun i => P4.out.frozen i
        have c3 := fun i => P3.out.cell i
        have f3 := fun i => P3.out.frozen i
        have key : (P.terminal st ls9 = true ∧ (dn == -1) = true ∧ P.doneOf st ds ls (P.movedTo F st ds ls dest reply) dest dn now = now) ∨ (P.terminal st ls9 = true ∧ (dn == -1) = false ∧ P.doneOf st ds ls (P.movedTo F st ds ls dest reply) dest dn now = dn) ∨ (P.terminal st ls9 = false ∧ P.doneOf st ds ls (P.movedTo F st ds ls dest reply) dest dn now = dn) := by
          rw [HN2.out, HN'.out]
          cases hT : P.terminal st ls9
          · exact Or.inr (Or.inr ⟨rfl, by rw [if_neg (by simp)]⟩)
          · by_cases hdn : dn = -1
            · exact Or.inl ⟨rfl, by simp [hdn], by rw [if_pos ⟨rfl, hdn⟩]⟩
            · exact Or.inr (Or.inl ⟨rfl, by simpa using hdn, by rw [if_neg (fun h => hdn h.2)]⟩)
        rcases key with ⟨t1, t2, t3⟩ | ⟨t1, t2, t3⟩ | ⟨t1, t3⟩
        all_goals
          have HN3 := Lib.hid t3
          clear t3
          go_wp2
          rw [HN3.out, HN'.out]
          refine bodyPost_ret (v := .agg #[.int .i64 id, .int .i64 run, .int .i64 tm, .int .i64 st, .int .i64 _, .string raw, .int .i64 flt, .slice (some ⟨g2, 0, none⟩) ls.length c2]) (by simp [results, Tryz.results33, go_sem, c3]) rfl ⟨_, rfl, ?_, ?_⟩
          · refine OwnL.less (B := w.heap.size + 4) ?_ (by omega)
            repeat (refine OwnL.far2 ?_ (by simp; omega) _)
            exact O12.out
          · repeat (refine Below.setCell ?_ (by simp; omega) _)
            exact W12.out
end Go.Proofs.YtemjipongehjlaaGreat
/- What prune.Tried returns. -/
namespace Go.Proofs.YtemjipongehjlaaGreat
set_option linter.unusedVariables false
open Go.RowKit Go.BigFrame
theorem add_wf {a : Int} (h : (Lit.int .i64 a).wf = true) : (Lit.int .i64 (P.add a 1)).wf = true := by
  have hb := bounds_i64 h
  have e1 : IntKind.i64.min = -9223372036854775808 := rfl
  have e2 : IntKind.i64.max = 9223372036854775807 := rfl
  have h3 : -9223372036854775808 ≤ P.add a 1 ∧ P.add a 1 ≤ 9223372036854775807 := by
    unfold P.add
    split <;> omega
  unfold Lit.wf
  simp only [e1, e2]
  simp
  exact h3
set_option maxRecDepth 100000 in
set_option maxHeartbeats 2000000 in
theorem tried_any (cn cd cpre cfil ctr : ByteArray) (cf : Bool) (cpt crt : Int) (D : Option Addr) (n dc : Nat) (ds : List P.Dest) (id run tm st dn flt : Int) (raw : ByteArray) (A : Option Addr) (m cp : Nat) (ls : List P.Leg) (dest reply : ByteArray) (now : Int) (B : Nat) (w : World)
    (h : LegsAt w B A m ls) (hd : DestsAt w B D n ds) (hB : B ≤ w.heap.size) (hm : m ≤ 1099511627776) (hn : n ≤ 1099511627776) (hw : ∀ d ∈ ds, (Lit.int .i64 d.chain).wf = true) (hwb : ∀ d ∈ ds, (Lit.int .i64 d.backoff).wf = true) (hnow : (Lit.int .i64 now).wf = true) (ht : ∀ l ∈ ls, (Lit.int .i64 l.tries).wf = true) (hr : reply.size ≤ maxLen) :
    Calls Tryz.prog 12 #[.agg #[.string cn, .bool cf, .int .i64 cpt, .string cd, .string cpre, .string cfil, .string ctr, .slice D n dc, .int .i64 crt], .agg #[.int .i64 id, .int .i64 run, .int .i64 tm, .int .i64 st, .int .i64 dn, .string raw, .int .i64 flt, .slice A m cp], .string dest, .string reply, .int .i64 now] w (GivesR w id run tm st (P.doneOf st ds ls (P.movedTo (P.triedTurn now ds) st ds ls dest reply) dest dn now) flt raw (P.movedTo (P.triedTurn now ds) st ds ls dest reply)) := by
  have hb := ((((Below.refl w.heap.size w).alloc (Nat.le_refl _) (.cells #[.string cn, .bool cf, .int .i64 cpt, .string cd, .string cpre, .string cfil, .string ctr, .slice D n dc, .int .i64 crt] 24)).alloc (by simp) (.cells #[.int .i64 id, .int .i64 run, .int .i64 tm, .int .i64 st, .int .i64 dn, .string raw, .int .i64 flt, .slice A m cp] 28)).alloc (by simp; omega) (.cells #[.int .i64 now] 3)).alloc (by simp; omega) (.cells #[.int .i64 0, .int .i64 0, .int .i64 0, .int .i64 0, .int .i64 0, .string ⟨#[]⟩, .int .i64 0, .slice none 0 0] 28)
  have k0 := (((Blk.new w 24 #[.string cn, .bool cf, .int .i64 cpt, .string cd, .string cpre, .string cfil, .string ctr, .slice D n dc, .int .i64 crt]).alloc (.cells #[.int .i64 id, .int .i64 run, .int .i64 tm, .int .i64 st, .int .i64 dn, .string raw, .int .i64 flt, .slice A m cp] 28)).alloc (.cells #[.int .i64 now] 3)).alloc (.cells #[.int .i64 0, .int .i64 0, .int .i64 0, .int .i64 0, .int .i64 0, .string ⟨#[]⟩, .int .i64 0, .slice none 0 0] 28)
  have k2 := (Blk.new ((w.alloc (.cells #[.string cn, .bool cf, .int .i64 cpt, .string cd, .string cpre, .string cfil, .string ctr, .slice D n dc, .int .i64 crt] 24)).alloc (.cells #[.int .i64 id, .int .i64 run, .int .i64 tm, .int .i64 st, .int .i64 dn, .string raw, .int .i64 flt, .slice A m cp] 28)) 3 #[.int .i64 now]).alloc (.cells #[.int .i64 0, .int .i64 0, .int .i64 0, .int .i64 0, .int .i64 0, .string ⟨#[]⟩, .int .i64 0, .slice none 0 0] 28)
  have k3 := Blk.new (((w.alloc (.cells #[.string cn, .bool cf, .int .i64 cpt, .string cd, .string cpre, .string cfil, .string ctr, .slice D n dc, .int .i64 crt] 24)).alloc (.cells #[.int .i64 id, .int .i64 run, .int .i64 tm, .int .i64 st, .int .i64 dn, .string raw, .int .i64 flt, .slice A m cp] 28)).alloc (.cells #[.int .i64 now] 3)) 28 #[.int .i64 0, .int .i64 0, .int .i64 0, .int .i64 0, .int .i64 0, .string ⟨#[]⟩, .int .i64 0, .slice none 0 0]
  rw [show ((w.alloc (.cells #[.string cn, .bool cf, .int .i64 cpt, .string cd, .string cpre, .string cfil, .string ctr, .slice D n dc, .int .i64 crt] 24)).alloc (.cells #[.int .i64 id, .int .i64 run, .int .i64 tm, .int .i64 st, .int .i64 dn, .string raw, .int .i64 flt, .slice A m cp] 28)).heap.size = w.heap.size + 2 from by simp] at k2
  rw [show (((w.alloc (.cells #[.string cn, .bool cf, .int .i64 cpt, .string cd, .string cpre, .string cfil, .string ctr, .slice D n dc, .int .i64 crt] 24)).alloc (.cells #[.int .i64 id, .int .i64 run, .int .i64 tm, .int .i64 st, .int .i64 dn, .string raw, .int .i64 flt, .slice A m cp] 28)).alloc (.cells #[.int .i64 now] 3)).heap.size = w.heap.size + 3 from by simp] at k3
  have hz : ((((w.alloc (.cells #[.string cn, .bool cf, .int .i64 cpt, .string cd, .string cpre, .string cfil, .string ctr, .slice D n dc, .int .i64 crt] 24)).alloc (.cells #[.int .i64 id, .int .i64 run, .int .i64 tm, .int .i64 st, .int .i64 dn, .string raw, .int .i64 flt, .slice A m cp] 28)).alloc (.cells #[.int .i64 now] 3)).alloc (.cells #[.int .i64 0, .int .i64 0, .int .i64 0, .int .i64 0, .int .i64 0, .string ⟨#[]⟩, .int .i64 0, .slice none 0 0] 28)).heap.size = w.heap.size + 4 := by simp
  obtain ⟨w0, hw0⟩ : ∃ w0, w0 = ((((w.alloc (.cells #[.string cn, .bool cf, .int .i64 cpt, .string cd, .string cpre, .string cfil, .string ctr, .slice D n dc, .int .i64 crt] 24)).alloc (.cells #[.int .i64 id, .int .i64 run, .int .i64 tm, .int .i64 st, .int .i64 dn, .string raw, .int .i64 flt, .slice A m cp] 28)).alloc (.cells #[.int .i64 now] 3)).alloc (.cells #[.int .i64 0, .int .i64 0, .int .i64 0, .int .i64 0, .int .i64 0, .string ⟨#[]⟩, .int .i64 0, .slice none 0 0] 28)) := ⟨_, rfl⟩
  have hturn : Turns 35 #[.pointer (some ⟨w.heap.size, 0, none⟩), .pointer (some ⟨w.heap.size + 2, 0, none⟩)] (P.triedTurn now ds) id run tm st dn flt raw ds ls reply w0 := by
    rw [← hw0] at hb k0 k2 hz
    intro W g k rb c2 l d Bo hW ho hl hdm hrb hg0 hne hg
    have hkl : k < ls.length := by
      rcases Nat.lt_or_ge k ls.length with h1 | h1
      · exact h1
      · rw [List.getElem?_eq_none h1] at hl; cases hl
    have hb2 : Below w.heap.size w W := hb.trans (hW.mono hb.size)
    have hlm := h.len
    refine tried1_any cn cd cpre cfil ctr cf cpt crt D n dc ds id run tm st dn flt raw g ls.length c2 k rb w.heap.size (w.heap.size + 2) (ls.set k (P.touch l reply)) (P.touch l reply) d now Bo B W (hd.below (hb2.mono hB)) (Nat.le_trans hB hb2.size) (by omega) ho (by rw [List.length_set]) (by rw [List.getElem?_set_self hkl]) hrb hne hg (by unfold maxLen; omega) (by unfold maxLen; omega) (k0.below hW (by omega)) (k2.below hW (by omega)) hnow (hwb d hdm) ?_
    exact add_wf (ht l (List.mem_of_getElem? hl))
  have KC := Lib.hid (moved_any 35 #[.pointer (some ⟨w.heap.size, 0, none⟩), .pointer (some ⟨w.heap.size + 2, 0, none⟩)] (P.triedTurn now ds) cn cd cpre cfil ctr cf cpt crt D n dc ds id run tm st dn flt raw A m cp ls dest reply now B w0 (hw0 ▸ h.below (hb.mono hB)) (hw0 ▸ hd.below (hb.mono hB)) (hw0 ▸ Nat.le_trans hB hb.size) hm hn hw ht hr (fun args w => rfl) hturn)
  have HB := Lib.hid hb
  have K3 := Lib.hid k3
  have HZ := Lib.hid hz
  rw [hw0] at KC
  clear h hd hw hwb hnow ht k0 k2 k3 hb hz hturn hw0 w0
  generalize P.doneOf st ds ls (P.movedTo (P.triedTurn now ds) st ds ls dest reply) dest dn now = dn2 at *
  generalize P.movedTo (P.triedTurn now ds) st ds ls dest reply = ls2 at *
  go_enter Tryz.func12, Tryz.ntmps12
  go_wp2_with fail
  refine KC.out.mono ?_
  rintro x w2 ⟨v, rfl, hown, hb2⟩
  obtain ⟨A2, c2, rfl, -⟩ := hown.reads
  rw [HZ.out] at hown
  have c3 := fun i => (K3.out.below hb2 K3.out.lt).cell i
  have f3 := fun i => (K3.out.below hb2 K3.out.lt).frozen i
  have B2 := Lib.hid (HB.out.trans (hb2.mono HB.out.size))
  have OW := Lib.hid hown
  clear hb2 hown
  go_wp2
  refine bodyPost_ret (v := .agg #[.int .i64 id, .int .i64 run, .int .i64 tm, .int .i64 st, .int .i64 dn2, .string raw, .int .i64 flt, .slice A2 ls2.length c2]) (by simp [results, Tryz.results12, go_sem, c3]) rfl ⟨_, rfl, ?_, ?_⟩
  · refine OwnL.less (B := w.heap.size + 4) ?_ (by omega)
    repeat (refine OwnL.far ?_ (by simp) _)
    exact OW.out
  · repeat (refine Below.setCell ?_ (by simp; omega) _)
    exact B2.out
end Go.Proofs.YtemjipongehjlaaGreat
