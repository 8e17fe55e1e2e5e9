/- What the reference's Next returns. -/
import Derived.Test.YtemjipongehjlaaGreatL18
import Derived.Test.YtemjipongehjlaaGreatL9
import Derived.Test.YtemjipongehjlaaGreatL10
import Derived.Test.YtemjipongehjlaaGreatL8
namespace Go.Proofs.YtemjipongehjlaaGreat
set_option linter.unusedVariables false
open Go.RowKit Go.BigFrame
namespace P
theorem fromR_yes {ds : List Dest} {ls : List Leg} {f k : Nat} {d : Dest} (hd : ds[k]? = some d) (h : mayR ds ls k d = true) : fromR ds ls (f + 1) k = d.name :: fromR ds ls f (k + 1) := by
  rw [fromR, hd]
  simp only
  rw [if_pos h]
theorem fromR_no {ds : List Dest} {ls : List Leg} {f k : Nat} {d : Dest} (hd : ds[k]? = some d) (h : mayR ds ls k d = false) : fromR ds ls (f + 1) k = fromR ds ls f (k + 1) := by
  rw [fromR, hd]
  simp only
  rw [if_neg (by rw [h]; simp)]
end P
set_option maxRecDepth 100000 in
set_option maxHeartbeats 4000000 in
theorem refNext_any (id run tm st dn flt : Int) (raw : ByteArray) (A : Option Addr) (m cp : Nat) (ls : List P.Leg) (cn cd cpre cfil ctr : ByteArray) (cf : Bool) (cpt crt : Int) (D : Option Addr) (n dc : Nat) (ds : List P.Dest) (B : Nat) (w : World)
    (h : LegsAt w B A m ls) (hd : DestsAt w B D n ds) (hB : B ≤ w.heap.size) (hm : m ≤ maxLen) (hn : n ≤ 1099511627776) :
    Calls Tryz.prog 17 #[.agg #[.string cn, .bool cf, .int .i64 cpt, .string cd, .string cpre, .string cfil, .string ctr, .slice D n dc, .int .i64 crt], .agg #[.int .i64 id, .int .i64 run, .int .i64 tm, .int .i64 st, .int .i64 dn, .string raw, .int .i64 flt, .slice A m cp]] w (GivesS w (P.next st ds ls)) := by
  have hbel := ((Below.refl w.heap.size w).alloc (Nat.le_refl _) (.cells #[.string cn, .bool cf, .int .i64 cpt, .string cd, .string cpre, .string cfil, .string ctr, .slice D n dc, .int .i64 crt] 24)).alloc (by simp) (.cells #[.int .i64 id, .int .i64 run, .int .i64 tm, .int .i64 st, .int .i64 dn, .string raw, .int .i64 flt, .slice A m cp] 28)
  have k0 := (Blk.new w 24 #[.string cn, .bool cf, .int .i64 cpt, .string cd, .string cpre, .string cfil, .string ctr, .slice D n dc, .int .i64 crt]).alloc (.cells #[.int .i64 id, .int .i64 run, .int .i64 tm, .int .i64 st, .int .i64 dn, .string raw, .int .i64 flt, .slice A m cp] 28)
  have k1 := Blk.new (w.alloc (.cells #[.string cn, .bool cf, .int .i64 cpt, .string cd, .string cpre, .string cfil, .string ctr, .slice D n dc, .int .i64 crt] 24)) 28 #[.int .i64 id, .int .i64 run, .int .i64 tm, .int .i64 st, .int .i64 dn, .string raw, .int .i64 flt, .slice A m cp]
  have hz : ((w.alloc (.cells #[.string cn, .bool cf, .int .i64 cpt, .string cd, .string cpre, .string cfil, .string ctr, .slice D n dc, .int .i64 crt] 24)).alloc (.cells #[.int .i64 id, .int .i64 run, .int .i64 tm, .int .i64 st, .int .i64 dn, .string raw, .int .i64 flt, .slice A m cp] 28)).heap.size = w.heap.size + 2 := by simp
  rw [show (w.alloc (.cells #[.string cn, .bool cf, .int .i64 cpt, .string cd, .string cpre, .string cfil, .string ctr, .slice D n dc, .int .i64 crt] 24)).heap.size = w.heap.size + 1 from by simp] at k1
  have H := Lib.hid h
  have HD := Lib.hid hd
  have K0 := Lib.hid k0
  have K1 := Lib.hid k1
  have BB := Lib.hid hbel
  have Z2 := Lib.hid hz
  clear h hd k0 k1 hbel hz
  go_enter Tryz.func17, Tryz.ntmps17
  go_wp2_with fail
  go_loopw [5, 6] (fun o x wr => ∃ (k : Nat) (acc : List ByteArray), k ≤ n ∧ x = .int .i64 k ∧ acc.length ≤ k ∧ (st = 3 → P.fromR ds ls n 0 = acc ++ P.fromR ds ls (n - k) k) ∧ (st ≠ 3 → acc = []) ∧ OwnS wr (w.heap.size + 2) o acc ∧ Below (w.heap.size + 2) ((w.alloc (.cells #[.string cn, .bool cf, .int .i64 cpt, .string cd, .string cpre, .string cfil, .string ctr, .slice D n dc, .int .i64 crt] 24)).alloc (.cells #[.int .i64 id, .int .i64 run, .int .i64 tm, .int .i64 st, .int .i64 dn, .string raw, .int .i64 flt, .slice A m cp] 28)) wr) (fun _ x _ => n - (intOf x).toNat)
  case atStart => exact ⟨0, [], by omega, rfl, by simp, fun _ => rfl, fun _ => rfl, OwnS.nil _ _, Below.refl _ _⟩
  case round =>
    obtain ⟨k, acc, hk, rfl, hacc, hfr, hno, hown, hbel⟩ := hrel
    have FR := Lib.hid hfr
    have NO := Lib.hid hno
    have OW := Lib.hid hown
    have HB := Lib.hid hbel
    have BW := Lib.hid (BB.out.trans (hbel.mono (by omega)))
    have hzr : w.heap.size + 2 ≤ wr.heap.size := by have := hbel.size; rw [Z2.out] at this; exact this
    have K0r := Lib.hid (K0.out.below hbel (by omega))
    have K1r := Lib.hid (K1.out.below hbel (by omega))
    have c0 := fun i => K0r.out.cell i
    have c1 := fun i => K1r.out.cell i
    clear hfr hno hown hbel
    by_cases h3 : st = 3
    · have ts : (st == 3) = true := by rw [h3]; rfl
      have HS := Lib.hid h3
      clear h3
      by_cases hlt : k < n
      · have t1 : decide ((k : Int) < (n : Int)) = true := by simp; omega
        have LEGr := Lib.hid ((H.out.below (BW.out.mono hB)).more (Nat.le_trans hB BW.out.size))
        have DSTr := Lib.hid ((HD.out.below (BW.out.mono hB)).more (Nat.le_trans hB BW.out.size))
        obtain ⟨ad, d, rfl, hdb, hdk, hdc⟩ := DSTr.out.in_ hlt
        have HDK := Lib.hid hdk
        have HDC := Lib.hid hdc
        have HDB := Lib.hid hdb
        have hlm := LEGr.out.len
        have LG := Lib.hid (fun x : Ext wr => refLeg_any id run tm st dn flt raw A m cp ls d.name x.wd.heap.size x.wd ((LEGr.out.below x.hb).more x.hb.size) (Nat.le_refl _) hm)
        have lt1 := P.legI_lt (ls := ls) (name := d.name)
        have OP := Lib.hid (fun x : Ext wr => refOpen_any id run tm st dn flt raw A m cp ls (P.legI ls d.name) x.wd.heap.size x.wd ((LEGr.out.below x.hb).more x.hb.size) (Nat.le_refl _) hm (by omega) (by omega))
        have cellC : ∀ x : Ext wr, ∀ i, x.wd.cell? ⟨w.heap.size, i, none⟩ = (#[.string cn, .bool cf, .int .i64 cpt, .string cd, .string cpre, .string cfil, .string ctr, .slice (some ad) n dc, .int .i64 crt] : Array Value)[i]? := fun x i => by rw [x.cell K0r.out.lt, K0r.out.cell]
        have cellR : ∀ x : Ext wr, ∀ i, x.wd.cell? ⟨w.heap.size + 1, i, none⟩ = (#[.int .i64 id, .int .i64 run, .int .i64 tm, .int .i64 st, .int .i64 dn, .string raw, .int .i64 flt, .slice A m cp] : Array Value)[i]? := fun x i => by rw [x.cell K1r.out.lt, K1r.out.cell]
        have cellD : ∀ x : Ext wr, x.wd.cell? (ad.add (k * 9)) = some (.string d.name) := fun x => by rw [x.cell hdb, hdc.c0]
        clear hdk hdc hdb hlm lt1
        go_wp2_with fail
        clear c0 c1
        refine wp_region_ext (by kernel_rfl) (by kernel_rfl) ?_
        repeat (first | go_big_quiet_step ((first | (go_at_call 40; exact Ext.calls _ (LG.out _)) | (go_at_call 39; exact Ext.calls _ (OP.out _)))) | quiet_step ((first | (go_at_call 40; exact Ext.calls _ (LG.out _)) | (go_at_call 39; exact Ext.calls _ (OP.out _)))))
        refine wpQuiet_nil ?_
        intro w5 hb5
        have S5 := Lib.hid (show Stays wr w5 from hb5)
        clear hb5 cellC cellR cellD
        go_wp2_with fail
        go_loopw [7, 8] (fun o x wq => ∃ j : Nat, j ≤ k ∧ x = .int .i64 j ∧ o = .bool (P.mayR ds ls j d) ∧ Stays wr wq) (fun _ x _ => k - (intOf x).toNat)
        case atStart => exact ⟨0, by omega, rfl, by rw [P.mayR_zero]; rfl, S5.out⟩
        case round =>
          obtain ⟨j, hj, rfl, rfl, hsq⟩ := hrel
          have SJ := Lib.hid hsq
          have KA := Lib.hid (K0r.out.stays hsq)
          have KB := Lib.hid (K1r.out.stays hsq)
          have c0 := fun i => KA.out.cell i
          have c1 := fun i => KB.out.cell i
          have LEGq := Lib.hid ((LEGr.out.below hsq).more hsq.size)
          have DSTq := Lib.hid ((DSTr.out.below hsq).more hsq.size)
          have DCq := Lib.hid (HDC.out.keep hsq HDB.out)
          have DBq := Lib.hid (Nat.lt_of_lt_of_le HDB.out hsq.size)
          clear hsq
          by_cases hjl : j < k
          · have t2 : decide ((j : Int) < (k : Int)) = true := by simp; omega
            obtain ⟨ad2, e, ee, heb, hek, hec⟩ := DSTq.out.in_ (k := j) (by omega)
            cases ee
            have MS := P.mayR_step (ls := ls) (d := d) hek
            have hlm := LEGq.out.len
            have lt1 := P.legI_lt (ls := ls) (name := e.name)
            cases mo : P.mayR ds ls j d
            · have MJ := Lib.hid (show P.mayR ds ls (j + 1) d = false from by rw [MS, mo]; rfl)
              have LG := Lib.hid (fun x : Ext wr => refLeg_any id run tm st dn flt raw A m cp ls e.name x.wd.heap.size x.wd ((LEGq.out.below x.hb).more x.hb.size) (Nat.le_refl _) hm)
              have OP := Lib.hid (fun x : Ext wr => refOpen_any id run tm st dn flt raw A m cp ls (P.legI ls e.name) x.wd.heap.size x.wd ((LEGq.out.below x.hb).more x.hb.size) (Nat.le_refl _) hm (by omega) (by omega))
              have cellC : ∀ x : Ext wr, ∀ i, x.wd.cell? ⟨w.heap.size, i, none⟩ = (#[.string cn, .bool cf, .int .i64 cpt, .string cd, .string cpre, .string cfil, .string ctr, .slice (some ad) n dc, .int .i64 crt] : Array Value)[i]? := fun x i => by rw [x.cell KA.out.lt, KA.out.cell]
              have cellR : ∀ x : Ext wr, ∀ i, x.wd.cell? ⟨w.heap.size + 1, i, none⟩ = (#[.int .i64 id, .int .i64 run, .int .i64 tm, .int .i64 st, .int .i64 dn, .string raw, .int .i64 flt, .slice A m cp] : Array Value)[i]? := fun x i => by rw [x.cell KB.out.lt, KB.out.cell]
              have cellE : ∀ x : Ext wr, x.wd.cell? (ad.add (j * 9)) = some (.string e.name) ∧ x.wd.cell? ⟨(ad.add (j * 9)).block, (ad.add (j * 9)).off + 1, none⟩ = some (.int .i64 e.chain) := fun x => ⟨by rw [x.cell heb, hec.c0], by rw [x.cell (p := ⟨(ad.add (j * 9)).block, _, none⟩) heb, hec.c1]⟩
              have cellD : ∀ x : Ext wr, x.wd.cell? ⟨(ad.add (k * 9)).block, (ad.add (k * 9)).off + 1, none⟩ = some (.int .i64 d.chain) := fun x => by rw [x.cell (p := ⟨(ad.add (k * 9)).block, _, none⟩) DBq.out, DCq.out.c1]
              clear MS hek hec heb hlm lt1
              go_wp2_with fail
              clear c0 c1
              refine wp_region_ext (by kernel_rfl) (by kernel_rfl) ?_
              repeat (first | go_big_quiet_step ((first | (go_at_call 40; exact Ext.calls _ (LG.out _)) | (go_at_call 39; exact Ext.calls _ (OP.out _)))) | quiet_step ((first | (go_at_call 40; exact Ext.calls _ (LG.out _)) | (go_at_call 39; exact Ext.calls _ (OP.out _)))))
              refine wpQuiet_nil ?_
              intro w7 hb7
              have S7 := Lib.hid (SJ.out.trans (show Stays _ w7 from hb7))
              clear hb7 cellC cellR cellE cellD
              go_wp2
              go_roundw
              case rel => exact ⟨j + 1, by omega, by go_num, by rw [MJ.out], S7.out⟩
              case measure => simp [intOf]; omega
            · cases tc : (e.chain == d.chain)
              · have MJ := Lib.hid (show P.mayR ds ls (j + 1) d = true from by rw [MS, mo, tc]; rfl)
                have tn := ne_of tc
                have LG := Lib.hid (fun x : Ext wr => refLeg_any id run tm st dn flt raw A m cp ls e.name x.wd.heap.size x.wd ((LEGq.out.below x.hb).more x.hb.size) (Nat.le_refl _) hm)
                have OP := Lib.hid (fun x : Ext wr => refOpen_any id run tm st dn flt raw A m cp ls (P.legI ls e.name) x.wd.heap.size x.wd ((LEGq.out.below x.hb).more x.hb.size) (Nat.le_refl _) hm (by omega) (by omega))
                have cellC : ∀ x : Ext wr, ∀ i, x.wd.cell? ⟨w.heap.size, i, none⟩ = (#[.string cn, .bool cf, .int .i64 cpt, .string cd, .string cpre, .string cfil, .string ctr, .slice (some ad) n dc, .int .i64 crt] : Array Value)[i]? := fun x i => by rw [x.cell KA.out.lt, KA.out.cell]
                have cellR : ∀ x : Ext wr, ∀ i, x.wd.cell? ⟨w.heap.size + 1, i, none⟩ = (#[.int .i64 id, .int .i64 run, .int .i64 tm, .int .i64 st, .int .i64 dn, .string raw, .int .i64 flt, .slice A m cp] : Array Value)[i]? := fun x i => by rw [x.cell KB.out.lt, KB.out.cell]
                have cellE : ∀ x : Ext wr, x.wd.cell? (ad.add (j * 9)) = some (.string e.name) ∧ x.wd.cell? ⟨(ad.add (j * 9)).block, (ad.add (j * 9)).off + 1, none⟩ = some (.int .i64 e.chain) := fun x => ⟨by rw [x.cell heb, hec.c0], by rw [x.cell (p := ⟨(ad.add (j * 9)).block, _, none⟩) heb, hec.c1]⟩
                have cellD : ∀ x : Ext wr, x.wd.cell? ⟨(ad.add (k * 9)).block, (ad.add (k * 9)).off + 1, none⟩ = some (.int .i64 d.chain) := fun x => by rw [x.cell (p := ⟨(ad.add (k * 9)).block, _, none⟩) DBq.out, DCq.out.c1]
                clear MS hek hec heb hlm lt1
                go_wp2_with fail
                clear c0 c1
                refine wp_region_ext (by kernel_rfl) (by kernel_rfl) ?_
                repeat (first | go_big_quiet_step ((first | (go_at_call 40; exact Ext.calls _ (LG.out _)) | (go_at_call 39; exact Ext.calls _ (OP.out _)))) | quiet_step ((first | (go_at_call 40; exact Ext.calls _ (LG.out _)) | (go_at_call 39; exact Ext.calls _ (OP.out _)))))
                refine wpQuiet_nil ?_
                intro w7 hb7
                have S7 := Lib.hid (SJ.out.trans (show Stays _ w7 from hb7))
                clear hb7 cellC cellR cellE cellD
                go_wp2
                go_roundw
                case rel => exact ⟨j + 1, by omega, by go_num, by rw [MJ.out], S7.out⟩
                case measure => simp [intOf]; omega
              · have MJ := Lib.hid (show P.mayR ds ls (j + 1) d = !(P.openI ls (P.legI ls e.name)) from by rw [MS, mo, tc]; simp [P.openOf])
                have tn := ne_of tc
                have LG := Lib.hid (fun x : Ext wr => refLeg_any id run tm st dn flt raw A m cp ls e.name x.wd.heap.size x.wd ((LEGq.out.below x.hb).more x.hb.size) (Nat.le_refl _) hm)
                have OP := Lib.hid (fun x : Ext wr => refOpen_any id run tm st dn flt raw A m cp ls (P.legI ls e.name) x.wd.heap.size x.wd ((LEGq.out.below x.hb).more x.hb.size) (Nat.le_refl _) hm (by omega) (by omega))
                have cellC : ∀ x : Ext wr, ∀ i, x.wd.cell? ⟨w.heap.size, i, none⟩ = (#[.string cn, .bool cf, .int .i64 cpt, .string cd, .string cpre, .string cfil, .string ctr, .slice (some ad) n dc, .int .i64 crt] : Array Value)[i]? := fun x i => by rw [x.cell KA.out.lt, KA.out.cell]
                have cellR : ∀ x : Ext wr, ∀ i, x.wd.cell? ⟨w.heap.size + 1, i, none⟩ = (#[.int .i64 id, .int .i64 run, .int .i64 tm, .int .i64 st, .int .i64 dn, .string raw, .int .i64 flt, .slice A m cp] : Array Value)[i]? := fun x i => by rw [x.cell KB.out.lt, KB.out.cell]
                have cellE : ∀ x : Ext wr, x.wd.cell? (ad.add (j * 9)) = some (.string e.name) ∧ x.wd.cell? ⟨(ad.add (j * 9)).block, (ad.add (j * 9)).off + 1, none⟩ = some (.int .i64 e.chain) := fun x => ⟨by rw [x.cell heb, hec.c0], by rw [x.cell (p := ⟨(ad.add (j * 9)).block, _, none⟩) heb, hec.c1]⟩
                have cellD : ∀ x : Ext wr, x.wd.cell? ⟨(ad.add (k * 9)).block, (ad.add (k * 9)).off + 1, none⟩ = some (.int .i64 d.chain) := fun x => by rw [x.cell (p := ⟨(ad.add (k * 9)).block, _, none⟩) DBq.out, DCq.out.c1]
                clear MS hek hec heb hlm lt1
                go_wp2_with fail
                clear c0 c1
                refine wp_region_ext (by kernel_rfl) (by kernel_rfl) ?_
                repeat (first | go_big_quiet_step ((first | (go_at_call 40; exact Ext.calls _ (LG.out _)) | (go_at_call 39; exact Ext.calls _ (OP.out _)))) | quiet_step ((first | (go_at_call 40; exact Ext.calls _ (LG.out _)) | (go_at_call 39; exact Ext.calls _ (OP.out _)))))
                refine wpQuiet_nil ?_
                intro w7 hb7
                have S7 := Lib.hid (SJ.out.trans (show Stays _ w7 from hb7))
                clear hb7 cellC cellR cellE cellD
                go_wp2
                go_roundw
                case rel => exact ⟨j + 1, by omega, by go_num, by rw [MJ.out], S7.out⟩
                case measure => simp [intOf]; omega
          · have t2 : decide ((j : Int) < (k : Int)) = false := by simp; omega
            have ej : j = k := by omega
            cases mo : P.mayR ds ls j d
            · have FN := Lib.hid (show P.fromR ds ls n 0 = acc ++ P.fromR ds ls (n - (k + 1)) (k + 1) from by
                rw [FR.out HS.out, show n - k = n - (k + 1) + 1 by omega]
                rw [P.fromR_no HDK.out (ej ▸ mo)])
              clear ej
              go_wp2
              go_roundw
              case rel => exact ⟨k + 1, acc, by omega, by go_num, by omega, fun _ => FN.out, NO.out, OW.out.below SJ.out (Nat.le_refl _), HB.out.trans (SJ.out.mono hzr)⟩
              case measure => simp [intOf]; omega
            · have FN := Lib.hid (show P.fromR ds ls n 0 = (acc ++ [d.name]) ++ P.fromR ds ls (n - (k + 1)) (k + 1) from by
                rw [FR.out HS.out, show n - k = n - (k + 1) + 1 by omega]
                rw [P.fromR_yes HDK.out (ej ▸ mo), List.append_assoc]
                rfl)
              clear ej
              obtain ⟨d0, d1, d2, d3, d4, d5, d6, d7, d8⟩ := DCq.out
              have OJ := Lib.hid ((OW.out.below SJ.out (Nat.le_refl _)).alloc (.cells #[.string d.name] 9))
              have zz : w.heap.size + 2 ≤ wr.heap.size := Nat.le_trans hzr SJ.out.size
              go_wp2_with (at_builtin; refine wpList_append_str1 rfl (.tmp 66) (.tmp 73) rfl (w.heap.size + 2) u5 acc rfl OJ.out ⟨wr.heap.size, 0, none⟩ d.name rfl (newsS wr 9 d.name) (by omega) (by simp; omega) ?_; intro o4 w4 hown4 hb4 hg4)
              have W4 := Lib.hid (HB.out.trans (((SJ.out.mono hzr).alloc (by omega) (.cells #[.string d.name] 9)).trans hb4))
              clear hb4 hg4
              go_wp2
              go_roundw
              case rel => exact ⟨k + 1, acc ++ [d.name], by omega, by go_num, by simp; omega, fun _ => FN.out, fun h => absurd HS.out h, hown4, W4.out⟩
              case measure => simp [intOf]; omega
      · have t1 : decide ((k : Int) < (n : Int)) = false := by simp; omega
        have hkn : k = n := by omega
        have HN := Lib.hid (show acc = P.next st ds ls from by
          have h1 := FR.out HS.out
          have h2 : P.fromR ds ls (n - k) k = [] := by rw [show n - k = 0 by omega]; rfl
          rw [h2, List.append_nil] at h1
          rw [← h1, P.next, if_pos HS.out, P.nextGo_ref, HD.out.len])
        clear hkn
        go_wp2
        go_ret
        rw [← HN.out]
        exact ⟨_, rfl, OW.out.less (by omega), BW.out⟩
    · have ts : (st == 3) = false := by simpa using h3
      have HN := Lib.hid (show acc = P.next st ds ls from by rw [NO.out h3, P.next, if_neg h3])
      clear h3
      by_cases hlt : k < n
      · have t1 : decide ((k : Int) < (n : Int)) = true := by simp; omega
        go_wp2
        go_ret
        rw [← HN.out]
        exact ⟨_, rfl, OW.out.less (by omega), BW.out⟩
      · have t1 : decide ((k : Int) < (n : Int)) = false := by simp; omega
        go_wp2
        go_ret
        rw [← HN.out]
        exact ⟨_, rfl, OW.out.less (by omega), BW.out⟩
end Go.Proofs.YtemjipongehjlaaGreat
/- What the reference's isNext, CopyRow and finished return. -/
namespace Go.Proofs.YtemjipongehjlaaGreat
set_option linter.unusedVariables false
open Go.RowKit Go.BigFrame
namespace P
theorem hasS_yes {l : List ByteArray} {x s : ByteArray} {k : Nat} (hl : l[k]? = some s) (h : (s.toList == x.toList) = true) : hasS l x = true := by
  unfold hasS
  rw [List.any_eq_true]
  refine ⟨s, List.mem_of_getElem? hl, ?_⟩
  have : s.data.toList = x.data.toList := by simpa [ByteArray.toList_eq] using h
  simp [this]
theorem hasS_no {l : List ByteArray} {x : ByteArray} (h : ∀ j s, j < l.length → l[j]? = some s → (s.toList == x.toList) = false) : hasS l x = false := by
  unfold hasS
  rw [List.any_eq_false]
  intro s hs
  obtain ⟨j, hj⟩ := List.getElem?_of_mem hs
  have hjl : j < l.length := by
    rcases Nat.lt_or_ge j l.length with h1 | h1
    · exact h1
    · rw [List.getElem?_eq_none h1] at hj; cases hj
  have := h j s hjl hj
  have h2 : s.data.toList ≠ x.data.toList := by simpa [ByteArray.toList_eq] using this
  rw [Bool.not_eq_true, beq_eq_false_iff_ne]
  exact Ne.symm h2
/-- When a row is done. -/
def doneAt (state : Int) (ls : List Leg) (dn now : Int) : Int := if terminal state ls = true ∧ dn = -1 then now else dn
end P
set_option maxRecDepth 100000 in
set_option maxHeartbeats 2000000 in
theorem isNext_any (id run tm st dn flt : Int) (raw : ByteArray) (A : Option Addr) (m cp : Nat) (ls : List P.Leg) (cn cd cpre cfil ctr : ByteArray) (cf : Bool) (cpt crt : Int) (D : Option Addr) (n dc : Nat) (ds : List P.Dest) (dest : ByteArray) (B : Nat) (w : World)
    (h : LegsAt w B A m ls) (hd : DestsAt w B D n ds) (hB : B ≤ w.heap.size) (hm : m ≤ maxLen) (hn : n ≤ 1099511627776) :
    Calls Tryz.prog 41 #[.agg #[.string cn, .bool cf, .int .i64 cpt, .string cd, .string cpre, .string cfil, .string ctr, .slice D n dc, .int .i64 crt], .agg #[.int .i64 id, .int .i64 run, .int .i64 tm, .int .i64 st, .int .i64 dn, .string raw, .int .i64 flt, .slice A m cp], .string dest] w fun x w' => x = .returned (.bool (P.hasS (P.next st ds ls) dest)) ∧ Below w.heap.size w w' := by
  have hbel := ((Below.refl w.heap.size w).alloc (Nat.le_refl _) (.cells #[.string cn, .bool cf, .int .i64 cpt, .string cd, .string cpre, .string cfil, .string ctr, .slice D n dc, .int .i64 crt] 24)).alloc (by simp) (.cells #[.int .i64 id, .int .i64 run, .int .i64 tm, .int .i64 st, .int .i64 dn, .string raw, .int .i64 flt, .slice A m cp] 28)
  have k0 := (Blk.new w 24 #[.string cn, .bool cf, .int .i64 cpt, .string cd, .string cpre, .string cfil, .string ctr, .slice D n dc, .int .i64 crt]).alloc (.cells #[.int .i64 id, .int .i64 run, .int .i64 tm, .int .i64 st, .int .i64 dn, .string raw, .int .i64 flt, .slice A m cp] 28)
  have k1 := Blk.new (w.alloc (.cells #[.string cn, .bool cf, .int .i64 cpt, .string cd, .string cpre, .string cfil, .string ctr, .slice D n dc, .int .i64 crt] 24)) 28 #[.int .i64 id, .int .i64 run, .int .i64 tm, .int .i64 st, .int .i64 dn, .string raw, .int .i64 flt, .slice A m cp]
  rw [show (w.alloc (.cells #[.string cn, .bool cf, .int .i64 cpt, .string cd, .string cpre, .string cfil, .string ctr, .slice D n dc, .int .i64 crt] 24)).heap.size = w.heap.size + 1 from by simp] at k1
  have NX := Lib.hid (refNext_any id run tm st dn flt raw A m cp ls cn cd cpre cfil ctr cf cpt crt D n dc ds B _ (h.below (hbel.mono hB)) (hd.below (hbel.mono hB)) (Nat.le_trans hB hbel.size) hm hn)
  have hgn : (P.next st ds ls).length ≤ n := by have := P.next_le st ds ls; rw [hd.len] at this; exact this
  have BB := Lib.hid hbel
  have c0 := fun i => k0.cell i
  have c1 := fun i => k1.cell i
  clear h hd k0 k1 hbel
  generalize P.next st ds ls = gl at *
  go_enter Tryz.func41, Tryz.ntmps41
  go_wp2_with fail
  clear c0 c1
  refine NX.out.mono ?_
  rintro x w2 ⟨v, rfl, hs, hb2⟩
  obtain ⟨A2, c2, rfl, hst⟩ := hs.reads
  have B2 := Lib.hid (BB.out.trans (hb2.mono BB.out.size))
  have ST := Lib.hid hst
  clear hs hst hb2
  go_wp2_with fail
  go_loopw [8] (fun x wr => ∃ k : Nat, k ≤ gl.length ∧ x = .int .i64 k ∧ (∀ j s, j < k → gl[j]? = some s → (s.toList == dest.toList) = false) ∧ Stays w2 wr) (fun x _ => gl.length - (intOf x).toNat)
  case atStart => exact ⟨0, by omega, rfl, fun j l hj => by omega, Stays.refl _⟩
  case round =>
    obtain ⟨k, hk, rfl, hno, hsr⟩ := hrel
    have Hno := Lib.hid hno
    have SR := Lib.hid hsr
    have BW := Lib.hid (B2.out.trans (hsr.mono B2.out.size))
    clear hno hsr
    by_cases hlt : k < gl.length
    · have t1 : decide ((k : Int) < (gl.length : Int)) = true := by simp; omega
      obtain ⟨ad, s, rfl, hb, hl, hc⟩ := StrsAt.in_ (ST.out.below SR.out) hlt
      have HL := Lib.hid hl
      clear hl
      cases ht : (s.toList == dest.toList)
      · have HN := Lib.hid (show ∀ j s, j < k + 1 → gl[j]? = some s → (s.toList == dest.toList) = false from fun j l2 hj hl2 => by
          rcases Nat.lt_or_ge j k with h1 | h1
          · exact Hno.out j l2 h1 hl2
          · have : j = k := by omega
            subst this
            rw [HL.out] at hl2
            cases hl2
            exact ht)
        go_wp2
        go_roundw
        case rel => exact ⟨k + 1, by omega, by go_num, HN.out, SR.out⟩
        case measure => simp [intOf]; omega
      · have HT := Lib.hid (P.hasS_yes HL.out ht)
        go_wp2
        go_ret
        rw [HT.out]
        exact ⟨rfl, BW.out⟩
    · have t1 : decide ((k : Int) < (gl.length : Int)) = false := by simp; omega
      have HT := Lib.hid (P.hasS_no (l := gl) (x := dest) (fun j s hj hl => Hno.out j s (by omega) hl))
      go_wp2
      go_ret
      rw [HT.out]
      exact ⟨rfl, BW.out⟩
set_option maxRecDepth 100000 in
set_option maxHeartbeats 2000000 in
theorem copyRow_any (id run tm st dn flt : Int) (raw : ByteArray) (A : Option Addr) (m cp : Nat) (ls : List P.Leg) (B : Nat) (w : World) (h : LegsAt w B A m ls) (hA : A = none → m = 0 ∧ cp = 0) (hB : B ≤ w.heap.size) (hm : m ≤ 1099511627776) :
    Calls Tryz.prog 42 #[.agg #[.int .i64 id, .int .i64 run, .int .i64 tm, .int .i64 st, .int .i64 dn, .string raw, .int .i64 flt, .slice A m cp]] w (GivesR w id run tm st dn flt raw ls) := by
  have hb := (((Below.refl w.heap.size w).alloc (Nat.le_refl _) (.cells #[.int .i64 id, .int .i64 run, .int .i64 tm, .int .i64 st, .int .i64 dn, .string raw, .int .i64 flt, .slice A m cp] 28)).alloc (by simp) (.cells #[.int .i64 0, .int .i64 0, .int .i64 0, .int .i64 0, .int .i64 0, .string ⟨#[]⟩, .int .i64 0, .slice none 0 0] 28))
  have k1 := (Blk.new w 28 #[.int .i64 id, .int .i64 run, .int .i64 tm, .int .i64 st, .int .i64 dn, .string raw, .int .i64 flt, .slice A m cp]).alloc (.cells #[.int .i64 0, .int .i64 0, .int .i64 0, .int .i64 0, .int .i64 0, .string ⟨#[]⟩, .int .i64 0, .slice none 0 0] 28)
  have k2 := Blk.new (w.alloc (.cells #[.int .i64 id, .int .i64 run, .int .i64 tm, .int .i64 st, .int .i64 dn, .string raw, .int .i64 flt, .slice A m cp] 28)) 28 #[.int .i64 0, .int .i64 0, .int .i64 0, .int .i64 0, .int .i64 0, .string ⟨#[]⟩, .int .i64 0, .slice none 0 0]
  rw [show (w.alloc (.cells #[.int .i64 id, .int .i64 run, .int .i64 tm, .int .i64 st, .int .i64 dn, .string raw, .int .i64 flt, .slice A m cp] 28)).heap.size = w.heap.size + 1 from by simp] at k2
  have HB := Lib.hid hb
  have K1 := Lib.hid k1
  have K2 := Lib.hid k2
  have c1 := fun i => k1.cell i
  have c2 := fun i => k2.cell i
  have f1 := fun i => k1.frozen i
  have f2 := fun i => k2.frozen i
  rcases A with _ | ad
  · obtain ⟨rfl, rfl⟩ := hA rfl
    have hls : ls = [] := List.eq_nil_of_length_eq_zero h.len
    subst hls
    clear h hb k1 k2 hA
    go_enter Tryz.func42, Tryz.ntmps42
    go_wp2
    refine bodyPost_ret (v := .agg #[.int .i64 id, .int .i64 run, .int .i64 tm, .int .i64 st, .int .i64 dn, .string raw, .int .i64 flt, .slice none 0 0]) (by simp [results, Tryz.results42, go_sem, c2]) rfl ⟨_, rfl, OwnL.nil _ _, ?_⟩
    first
      | exact ((Below.refl _ _).alloc (Nat.le_refl _) _).alloc (by simp) _
      | (repeat (refine Below.setCell ?_ (by simp) _)
         exact HB.out)
  · have hl := h.len
    have hc : ∀ j z, (ls.flatMap P.Leg.cells)[j]? = some z → ((w.alloc (.cells #[.int .i64 id, .int .i64 run, .int .i64 tm, .int .i64 st, .int .i64 dn, .string raw, .int .i64 flt, .slice (some ad) m cp] 28)).alloc (.cells #[.int .i64 0, .int .i64 0, .int .i64 0, .int .i64 0, .int .i64 0, .string ⟨#[]⟩, .int .i64 0, .slice none 0 0] 28)).cell? (ad.add j) = some z := fun j z hz => by
      have hm1 : 0 < m := by
        rcases Nat.eq_zero_or_pos m with h0 | h0
        · rw [List.eq_nil_of_length_eq_zero (hl.trans h0)] at hz; cases hz
        · exact h0
      obtain ⟨ad', e, hb', hcc⟩ := h.2 hm1
      cases e
      rw [hb.cell (p := ad.add j) (by rw [block_of_add]; omega)]
      exact hcc j z hz
    have HL := Lib.hid hl
    have HC := Lib.hid hc
    clear h hb k1 k2 hA hl hc
    go_enter Tryz.func42, Tryz.ntmps42
    go_wp2_with (at_builtin; refine wpList_append_legs rfl (.const (.slice none 0 0)) (.tmp 4) rfl (w.heap.size + 2) (.slice none 0 0) [] rfl (OwnL.nil _ _) ad m cp ls rfl HL.out HC.out (by simp; omega) (by simp) ?_; intro v' w' hown hb'; have BO := Lib.hid hb'; have OW := Lib.hid hown; obtain ⟨A2, c2', rfl, -⟩ := hown.reads; have hbs : Stays ((w.alloc (.cells #[.int .i64 id, .int .i64 run, .int .i64 tm, .int .i64 st, .int .i64 dn, .string raw, .int .i64 flt, .slice (some ad) m cp] 28)).alloc (.cells #[.int .i64 0, .int .i64 0, .int .i64 0, .int .i64 0, .int .i64 0, .string ⟨#[]⟩, .int .i64 0, .slice none 0 0] 28)) w' := hb'.mono (by simp); have r1 := K1.out.stays hbs; have r2 := K2.out.stays hbs; have d1 := fun i => r1.cell i; have d2 := fun i => r2.cell i; have g1 := fun i => r1.frozen i; have g2 := fun i => r2.frozen i; have BB := Lib.hid (HB.out.trans (hb'.mono (by omega))); clear hown hb' hbs r1 r2 c1 c2 f1 f2)
    refine bodyPost_ret (v := .agg #[.int .i64 id, .int .i64 run, .int .i64 tm, .int .i64 st, .int .i64 dn, .string raw, .int .i64 flt, .slice A2 ([] ++ ls).length c2']) (by simp [results, Tryz.results42, go_sem, d2]) rfl ⟨_, rfl, ?_, ?_⟩
    · refine OwnL.less (B := w.heap.size + 2) ?_ (by omega)
      repeat (refine OwnL.far ?_ (by simp) _)
      exact OW.out
    · repeat (refine Below.setCell ?_ (by simp) _)
      exact BB.out
end Go.Proofs.YtemjipongehjlaaGreat
/- What the reference's finished, Add and Due (of tries) return. -/
namespace Go.Proofs.YtemjipongehjlaaGreat
set_option linter.unusedVariables false
open Go.RowKit Go.BigFrame
set_option maxRecDepth 100000 in
set_option maxHeartbeats 2000000 in
theorem finished_any (id run tm st dn flt : Int) (raw : ByteArray) (A : Option Addr) (m cp : Nat) (ls : List P.Leg) (now : Int) (B : Nat) (w : World) (h : LegsAt w B A m ls) (hB : B ≤ w.heap.size) (hm : m ≤ maxLen) :
    Calls Tryz.prog 44 #[.agg #[.int .i64 id, .int .i64 run, .int .i64 tm, .int .i64 st, .int .i64 dn, .string raw, .int .i64 flt, .slice A m cp], .int .i64 now] w fun x w' => x = .returned (.agg #[.int .i64 id, .int .i64 run, .int .i64 tm, .int .i64 st, .int .i64 (P.doneAt st ls dn now), .string raw, .int .i64 flt, .slice A m cp]) ∧ Below w.heap.size w w' := by
  have hb := (((Below.refl w.heap.size w).alloc (Nat.le_refl _) (.cells #[.int .i64 id, .int .i64 run, .int .i64 tm, .int .i64 st, .int .i64 dn, .string raw, .int .i64 flt, .slice A m cp] 28)).alloc (by simp) (.cells #[.int .i64 0, .int .i64 0, .int .i64 0, .int .i64 0, .int .i64 0, .string ⟨#[]⟩, .int .i64 0, .slice none 0 0] 28))
  have k1 := (Blk.new w 28 #[.int .i64 id, .int .i64 run, .int .i64 tm, .int .i64 st, .int .i64 dn, .string raw, .int .i64 flt, .slice A m cp]).alloc (.cells #[.int .i64 0, .int .i64 0, .int .i64 0, .int .i64 0, .int .i64 0, .string ⟨#[]⟩, .int .i64 0, .slice none 0 0] 28)
  have k2 := Blk.new (w.alloc (.cells #[.int .i64 id, .int .i64 run, .int .i64 tm, .int .i64 st, .int .i64 dn, .string raw, .int .i64 flt, .slice A m cp] 28)) 28 #[.int .i64 0, .int .i64 0, .int .i64 0, .int .i64 0, .int .i64 0, .string ⟨#[]⟩, .int .i64 0, .slice none 0 0]
  rw [show (w.alloc (.cells #[.int .i64 id, .int .i64 run, .int .i64 tm, .int .i64 st, .int .i64 dn, .string raw, .int .i64 flt, .slice A m cp] 28)).heap.size = w.heap.size + 1 from by simp] at k2
  have TE := Lib.hid (refTerminal_any id run tm st dn flt raw A m cp ls B _ (h.below (hb.mono hB)) (Nat.le_trans hB hb.size) hm)
  have key : (P.terminal st ls = true ∧ (dn == -1) = true ∧ P.doneAt st ls dn now = now) ∨ (P.terminal st ls = true ∧ (dn == -1) = false ∧ P.doneAt st ls dn now = dn) ∨ (P.terminal st ls = false ∧ P.doneAt st ls dn now = dn) := by
    unfold P.doneAt
    cases hT : P.terminal st ls
    · exact Or.inr (Or.inr ⟨rfl, by rw [if_neg (by simp)]⟩)
    · by_cases hdn : dn = -1
      · exact Or.inl ⟨rfl, by simp [hdn], by rw [if_pos ⟨rfl, hdn⟩]⟩
      · exact Or.inr (Or.inl ⟨rfl, by simpa using hdn, by rw [if_neg (fun h => hdn h.2)]⟩)
  have HB := Lib.hid hb
  have K1 := Lib.hid k1
  have K2 := Lib.hid k2
  have c1 := fun i => k1.cell i
  clear h hb k1 k2
  rcases key with ⟨t1, t2, t3⟩ | ⟨t1, t2, t3⟩ | ⟨t1, t3⟩
  all_goals
    rw [t1] at TE
    rw [t3]
    clear t1 t3
    go_enter Tryz.func44, Tryz.ntmps44
    go_wp2_with fail
    refine TE.out.mono ?_
    rintro x w2 ⟨rfl, hb2⟩
    have hs2 : Stays _ w2 := hb2
    have r1 := K1.out.stays hs2
    have r2 := K2.out.stays hs2
    have d1 := fun i => r1.cell i
    have d2 := fun i => r2.cell i
    have g1 := fun i => r1.frozen i
    have g2 := fun i => r2.frozen i
    have BB := Lib.hid (HB.out.trans (hb2.mono HB.out.size))
    clear hb2 hs2 r1 r2 c1
    go_wp2
    refine bodyPost_ret (v := .agg #[.int .i64 id, .int .i64 run, .int .i64 tm, .int .i64 st, .int .i64 _, .string raw, .int .i64 flt, .slice A m cp]) (by simp [results, Tryz.results44, go_sem, d2]) rfl ⟨rfl, ?_⟩
    repeat (refine Below.setCell ?_ (by simp) _)
    exact BB.out
set_option maxHeartbeats 400000 in
set_option maxRecDepth 20000 in
theorem refAdd_any (a b : Int) (w : World) (ha : -9223372036854775808 ≤ a) (ha' : a ≤ 9223372036854775807) (hb : -9223372036854775808 ≤ b) (hb' : b ≤ 9223372036854775807) :
    Calls Tryz.prog 130 #[.int .i64 a, .int .i64 b] w fun e w' => e = .returned (.int .i64 (P.add a b)) ∧ w = w' := by
  have ea : max a 0 = if a < 0 then 0 else a := by omega
  have eb : max b 0 = if b < 0 then 0 else b := by omega
  have hp : P.add a b = if (if a < 0 then 0 else a) > 9223372036854775807 - (if b < 0 then 0 else b) then 9223372036854775807 else (if a < 0 then 0 else a) + (if b < 0 then 0 else b) := by rw [P.add, ea, eb]
  clear ea eb
  have HP := Lib.hid hp
  clear hp
  by_cases h1 : a < 0 <;> by_cases h2 : b < 0 <;>
  (by_cases h3 : (if a < 0 then 0 else a) > 9223372036854775807 - (if b < 0 then 0 else b)) <;>
  (simp only [h1, h2, if_true, if_false] at h3) <;>
  (go_enter Tryz.func130, Tryz.ntmps130
   go_wp2
   all_goals (go_ret; rw [HP.out]; first | (simp [h1, h2]; done) | (simp [h1, h2]; omega)))
end Go.Proofs.YtemjipongehjlaaGreat
