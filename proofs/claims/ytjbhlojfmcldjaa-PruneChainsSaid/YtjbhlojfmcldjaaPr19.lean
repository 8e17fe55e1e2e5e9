/- What PruneChains returns: true. -/
import Derived.Test.YtjbhlojfmcldjaaPr18
import Derived.Test.YtjbhlojfmcldjaaPr15
import Derived.Test.YtjbhlojfmcldjaaPlainChains2
namespace Go.Proofs.Ytjbhlojfmcldjaa
set_option linter.unusedVariables false
open Go.RowKit Go.BigFrame
set_option maxRecDepth 100000 in
set_option maxHeartbeats 4000000 in
theorem pruneChains_any (cn cd cpre cfil ctr : ByteArray) (cf : Bool) (cpt crt : Int) (D : Option Addr) (n dc : Nat) (ds : List P.Dest) (id run tm st dn flt : Int) (raw : ByteArray) (A : Option Addr) (m cp : Nat) (ls : List P.Leg) (B : Nat) (w : World)
    (hd : DestsAt w B D n ds) (ha : LegsAt w B A m ls) (hB : B ≤ w.heap.size) (hm : m ≤ maxLen) (hn : n ≤ maxLen) (hw : ∀ d ∈ ds, (Lit.int .i64 d.chain).wf = true) :
    Calls Try.prog 4 #[.agg #[.string cn, .bool cf, .int .i64 cpt, .string cd, .string cpre, .string cfil, .string ctr, .slice D n dc, .int .i64 crt], .agg #[.int .i64 id, .int .i64 run, .int .i64 tm, .int .i64 st, .int .i64 dn, .string raw, .int .i64 flt, .slice A m cp]] w fun e w' => e = .returned (.bool true) ∧ Below w.heap.size w w' := by
  have hbel := ((Below.refl w.heap.size w).alloc (Nat.le_refl _) (.cells #[.string cn, .bool cf, .int .i64 cpt, .string cd, .string cpre, .string cfil, .string ctr, .slice D n dc, .int .i64 crt] 31)).alloc (by simp) (.cells #[.int .i64 id, .int .i64 run, .int .i64 tm, .int .i64 st, .int .i64 dn, .string raw, .int .i64 flt, .slice A m cp] 25)
  have k0 := (Blk.new w 31 #[.string cn, .bool cf, .int .i64 cpt, .string cd, .string cpre, .string cfil, .string ctr, .slice D n dc, .int .i64 crt]).alloc (.cells #[.int .i64 id, .int .i64 run, .int .i64 tm, .int .i64 st, .int .i64 dn, .string raw, .int .i64 flt, .slice A m cp] 25)
  have k1 := Blk.new (w.alloc (.cells #[.string cn, .bool cf, .int .i64 cpt, .string cd, .string cpre, .string cfil, .string ctr, .slice D n dc, .int .i64 crt] 31)) 25 #[.int .i64 id, .int .i64 run, .int .i64 tm, .int .i64 st, .int .i64 dn, .string raw, .int .i64 flt, .slice A m cp]
  have hz : ((w.alloc (.cells #[.string cn, .bool cf, .int .i64 cpt, .string cd, .string cpre, .string cfil, .string ctr, .slice D n dc, .int .i64 crt] 31)).alloc (.cells #[.int .i64 id, .int .i64 run, .int .i64 tm, .int .i64 st, .int .i64 dn, .string raw, .int .i64 flt, .slice A m cp] 25)).heap.size = w.heap.size + 2 := by simp
  rw [show (w.alloc (.cells #[.string cn, .bool cf, .int .i64 cpt, .string cd, .string cpre, .string cfil, .string ctr, .slice D n dc, .int .i64 crt] 31)).heap.size = w.heap.size + 1 from by simp] at k1
  have KR := Lib.hid (right_any cn cd cpre cfil ctr cf cpt crt D n dc ds B _ (hd.below (hbel.mono hB)) (Nat.le_trans hB hbel.size) hn)
  have AL := Lib.hid (fun W => alive_any W)
  have HD := Lib.hid hd
  have HA := Lib.hid ha
  have K0 := Lib.hid k0
  have K1 := Lib.hid k1
  have BB := Lib.hid hbel
  have Z2 := Lib.hid hz
  clear hd ha k0 k1 hbel hz
  have hm' := hm
  unfold maxLen at hm'
  go_enter Try.func4, Try.ntmps4
  go_wp2_with fail
  refine KR.out.mono ?_
  rintro x w3 ⟨⟨b, rfl, hr⟩, hb3⟩
  have c0 := fun i => (K0.out.below hb3 (by rw [Z2.out]; omega)).cell i
  have c1 := fun i => (K1.out.below hb3 (by rw [Z2.out]; omega)).cell i
  have HR := Lib.hid hr
  have K0' := Lib.hid (K0.out.below hb3 (by rw [Z2.out]; omega))
  have K1' := Lib.hid (K1.out.below hb3 (by rw [Z2.out]; omega))
  have B3 := Lib.hid (BB.out.trans (hb3.mono BB.out.size))
  clear hr hb3
  cases b
  · go_wp2_with fail
    refine (AL.out _).mono ?_
    rintro x w4 ⟨rfl, hb4⟩
    have B4 := Lib.hid (B3.out.trans (hb4.mono B3.out.size))
    clear hb4
    go_wp2
    go_ret
    exact ⟨rfl, B4.out⟩
  · have RD := Lib.hid (HR.out rfl)
    by_cases h3 : st = 3
    · have t1 : (st != 3) = false := by rw [h3]; rfl
      by_cases hmn : m = n
      · subst hmn
        have t2 : ((m : Int) != (m : Int)) = false := by simp
        have E3 := Lib.hid h3
        clear h3
        have LEG := Lib.hid ((HA.out.below (B3.out.mono hB)).more (Nat.le_trans hB B3.out.size))
        have DST := Lib.hid ((HD.out.below (B3.out.mono hB)).more (Nat.le_trans hB B3.out.size))
        go_wp2_with fail
        clear c0 c1 t1 t2
        go_loopw [5] (fun x wr => ∃ k : Nat, k ≤ m ∧ x = .int .i64 k ∧ (∀ (i : Nat) (d : P.Dest) (l : P.Leg), i < k → ds[i]? = some d → ls[i]? = some l → l.name.data.toList = d.name.data.toList) ∧ Below w3.heap.size w3 wr) (fun x _ => m - (intOf x).toNat)
        case atStart => exact ⟨0, by omega, rfl, fun i d l hi => by omega, Below.refl _ _⟩
        case round =>
          obtain ⟨k, hk, rfl, hsm, hb4⟩ := hrel
          have SM := Lib.hid hsm
          have H4 := Lib.hid hb4
          have c0 := fun i => (K0'.out.stays hb4).cell i
          have c1 := fun i => (K1'.out.stays hb4).cell i
          clear hsm hb4
          by_cases hlt : k < m
          · have t1 : decide ((k : Int) < (m : Int)) = true := by simp; omega
            obtain ⟨ad, l, rfl, hlb, hlk, l0, l1, l2, l3, l4, l5⟩ := (LEG.out.below H4.out).in_ hlt
            obtain ⟨ad2, d, rfl, hdb, hdk, d0, d1, d2, d3, d4, d5, d6, d7, d8⟩ := (DST.out.below H4.out).in_ hlt
            have HLK := Lib.hid hlk
            have HDK := Lib.hid hdk
            clear hlk hdk
            cases t3 : (l.name.toList == d.name.toList)
            · have t4 := ne_of t3
              go_wp2_with fail
              go_quiet (fail)
              go_wp2_with fail
              refine (AL.out _).mono ?_
              rintro x w5 ⟨rfl, hb5⟩
              have B5 := Lib.hid (B3.out.trans (((below_drewN H4.out _).trans (hb5.mono (below_drewN H4.out _).size)).mono B3.out.size))
              clear hb5
              go_wp2
              go_ret
              exact ⟨rfl, B5.out⟩
            · have t4 := ne_of t3
              have SM2 := Lib.hid (show ∀ (i : Nat) (d : P.Dest) (l : P.Leg), i < k + 1 → ds[i]? = some d → ls[i]? = some l → l.name.data.toList = d.name.data.toList from fun i d' l' hi hd' hl' => by
                rcases Nat.lt_or_ge i k with h1 | h1
                · exact SM.out i d' l' h1 hd' hl'
                · have : i = k := by omega
                  subst this
                  rw [HDK.out] at hd'
                  rw [HLK.out] at hl'
                  cases hd'
                  cases hl'
                  simpa [ByteArray.toList_eq] using t3)
              go_wp2_with fail
              go_quiet (fail)
              go_wp2
              go_roundw
              case rel => exact ⟨k + 1, by omega, by go_num, SM2.out, below_drewN H4.out _⟩
              case measure => simp [intOf]; omega
          · have t1 : decide ((k : Int) < (m : Int)) = false := by simp; omega
            have ek : k = m := by omega
            have LN := Lib.hid (show P.Lined ds ls from ⟨by rw [LEG.out.len, DST.out.len], fun i d l hd hl => SM.out i d l (by
              rw [ek, ← DST.out.len]
              exact (List.getElem?_eq_some_iff.1 hd).1) hd hl, fun i j d e hij hd he h => by
              have := (RD.out.to_ j e (List.getElem?_eq_some_iff.1 he).1 he).2.2 i d hij hd
              rw [beq_eq_false_iff_ne] at this
              exact this h⟩)
            have m8 : m ≤ 8 := by have := RD.out.few; rw [DST.out.len] at this; exact this
            have hnx := next_any id run tm st dn flt raw A m cp ls cn cd cpre cfil ctr cf cpt crt D m dc ds _ wr ((LEG.out.below H4.out).more H4.out.size) ((DST.out.below H4.out).more H4.out.size) (Nat.le_refl _) hm (by omega) hw
            rw [show P.next st ds ls = P.goFrom ds ls m 0 from by rw [E3.out, P.next_lined LN.out, DST.out.len]] at hnx
            have hne : ((P.goFrom ds ls m 0).length == 0) = P.terminal st ls := by rw [E3.out, ← P.next_end LN.out, P.next_lined LN.out, DST.out.len]
            have NE := Lib.hid hne
            have NX := Lib.hid hnx
            clear hnx ek hne
            go_wp2_with fail
            refine NX.out.mono ?_
            rintro x w5 ⟨v, rfl, hs, hb5⟩
            obtain ⟨As, cs, rfl, hst⟩ := hs.reads
            have hst5 : Stays wr w5 := hb5
            have K5 := Lib.hid ((K0'.out.stays H4.out).stays hst5)
            have R5 := Lib.hid ((K1'.out.stays H4.out).stays hst5)
            have L5 := Lib.hid ((LEG.out.below (H4.out.trans (hb5.mono H4.out.size))).more (Nat.le_trans H4.out.size hb5.size))
            have D5 := Lib.hid ((DST.out.below (H4.out.trans (hb5.mono H4.out.size))).more (Nat.le_trans H4.out.size hb5.size))
            have B5 := Lib.hid (B3.out.trans ((H4.out.trans (hb5.mono H4.out.size)).mono B3.out.size))
            have S5 := Lib.hid hst
            clear hs hst hst5 hb5 c0 c1 t1
            obtain ⟨gl, hgl⟩ : ∃ gl, gl = P.goFrom ds ls m 0 := ⟨_, rfl⟩
            rw [← hgl] at NE S5 ⊢
            have GL := Lib.hid hgl
            clear hgl
            have hgn : gl.length ≤ m := by rw [GL.out]; exact P.goFrom_le ds ls m 0
            go_wp2_with fail
            go_loopw [7, 8] (fun a x wr => ∃ i t : Nat, i ≤ m ∧ x = .int .i64 i ∧ a = .int .i64 t ∧ t ≤ gl.length ∧ t ≤ i ∧ gl.drop t = P.goFrom ds ls (m - i) i ∧ Below w5.heap.size w5 wr) (fun _ x _ => m - (intOf x).toNat)
            case atStart => exact ⟨0, 0, by omega, rfl, rfl, by omega, by omega, by rw [GL.out]; rfl, Below.refl _ _⟩
            case round =>
              obtain ⟨i, t, hi, rfl, rfl, htl, hti, hdrop, hb6⟩ := hrel
              have GD := Lib.hid hdrop
              have H6 := Lib.hid hb6
              have K6 := Lib.hid (K5.out.stays hb6)
              have R6 := Lib.hid (R5.out.stays hb6)
              have L6 := Lib.hid ((L5.out.below hb6).more hb6.size)
              have D6 := Lib.hid ((D5.out.below hb6).more hb6.size)
              have S6 := Lib.hid ((S5.out.below hb6).more hb6.size)
              have c0 := fun j => (K6.out).cell j
              have c1 := fun j => (R6.out).cell j
              clear hdrop hb6
              by_cases hlt : i < m
              · have t1 : decide ((i : Int) < (m : Int)) = true := by simp; omega
                obtain ⟨ad, l, rfl, hlb, hlk, hlc⟩ := L6.out.in_ hlt
                obtain ⟨ad2, d, rfl, hdb, hdk, hdc⟩ := D6.out.in_ hlt
                have HLK := Lib.hid hlk
                have HDK := Lib.hid hdk
                have HLC := Lib.hid hlc
                have HDC := Lib.hid hdc
                have HDB := Lib.hid hdb
                obtain ⟨l0, l1, l2, l3, l4, l5⟩ := hlc
                clear hlk hdk hdc hdb hlb
                rcases P.open_key l with ⟨ho, ts | ⟨ts, ts2⟩⟩ | ⟨ho, ts, ts2⟩
                all_goals have HO := Lib.hid ho
                all_goals clear ho
                all_goals go_wp2_with fail
                all_goals clear c0 c1 l0 l1 l2 l3 l4 l5
                · go_loopw [9, 10] (fun o x wq => ∃ j : Nat, j ≤ i ∧ x = .int .i64 j ∧ o = .bool (P.mayTo ds ls j d l) ∧ Below wr.heap.size wr wq) (fun _ x _ => i - (intOf x).toNat)
                  case atStart => exact ⟨0, by omega, rfl, by rw [P.mayTo_zero, HO.out], Below.refl _ _⟩
                  case round =>
                    obtain ⟨j, hj, rfl, rfl, hb7⟩ := hrel
                    have H7 := Lib.hid hb7
                    have K7 := Lib.hid (K6.out.stays hb7)
                    have R7 := Lib.hid (R6.out.stays hb7)
                    have c0 := fun j => (K7.out).cell j
                    have c1 := fun j => (R7.out).cell j
                    obtain ⟨d0, d1, d2, d3, d4, d5, d6, d7, d8⟩ := HDC.out.keep hb7 HDB.out
                    clear hb7
                    by_cases hjl : j < i
                    · have t3 : decide ((j : Int) < (i : Int)) = true := by simp; omega
                      obtain ⟨ad3, e, ee, heb, hek, e0, e1, e2, e3, e4, e5, e6, e7, e8⟩ := (D6.out.below H7.out).in_ (k := j) (by omega)
                      cases ee
                      obtain ⟨ad4, x, ee, hxb, hxk, x0, x1, x2, x3, x4, x5⟩ := (L6.out.below H7.out).in_ (k := j) (by omega)
                      cases ee
                      have MS := Lib.hid (P.mayTo_step (d := d) (l := l) hek hxk)
                      clear hek hxk heb hxb
                      cases tc : (e.chain == d.chain)
                      · have NJ := Lib.hid (show P.mayTo ds ls (j + 1) d l = P.mayTo ds ls j d l from by rw [MS.out, tc]; simp)
                        clear MS
                        go_wp2_with fail
                        go_quiet (fail)
                        go_wp2
                        go_roundw
                        case rel => exact ⟨j + 1, by omega, by go_num, by rw [NJ.out], below_drewN H7.out _⟩
                        case measure => simp [intOf]; omega
                      · rcases P.open_key x with ⟨xo, tx | ⟨tx, tx2⟩⟩ | ⟨xo, tx, tx2⟩
                        · have NJ := Lib.hid (show P.mayTo ds ls (j + 1) d l = false from by rw [MS.out, tc, xo]; simp)
                          clear MS xo
                          go_wp2_with fail
                          go_quiet (fail)
                          go_wp2
                          go_roundw
                          case rel => exact ⟨j + 1, by omega, by go_num, by rw [NJ.out], below_drewN H7.out _⟩
                          case measure => simp [intOf]; omega
                        · have NJ := Lib.hid (show P.mayTo ds ls (j + 1) d l = false from by rw [MS.out, tc, xo]; simp)
                          clear MS xo
                          go_wp2_with fail
                          go_quiet (fail)
                          go_wp2
                          go_roundw
                          case rel => exact ⟨j + 1, by omega, by go_num, by rw [NJ.out], below_drewN H7.out _⟩
                          case measure => simp [intOf]; omega
                        · have NJ := Lib.hid (show P.mayTo ds ls (j + 1) d l = P.mayTo ds ls j d l from by rw [MS.out, tc, xo]; simp)
                          clear MS xo
                          go_wp2_with fail
                          go_quiet (fail)
                          go_wp2
                          go_roundw
                          case rel => exact ⟨j + 1, by omega, by go_num, by rw [NJ.out], below_drewN H7.out _⟩
                          case measure => simp [intOf]; omega
                    · have t3 : decide ((j : Int) < (i : Int)) = false := by simp; omega
                      have ej : j = i := by omega
                      cases tm : P.mayTo ds ls j d l
                      · have GN := Lib.hid (show gl.drop t = P.goFrom ds ls (m - (i + 1)) (i + 1) from by
                          rw [GD.out, show m - i = m - (i + 1) + 1 by omega]
                          exact P.goFrom_no HDK.out HLK.out (ej ▸ tm))
                        clear ej
                        go_wp2
                        go_roundw
                        case rel => exact ⟨i + 1, t, by omega, by go_num, rfl, by omega, by omega, GN.out, H6.out.trans (H7.out.mono H6.out.size)⟩
                        case measure => simp [intOf]; omega
                      · have hgy : gl.drop t = d.name :: P.goFrom ds ls (m - (i + 1)) (i + 1) := by
                          rw [GD.out, show m - i = m - (i + 1) + 1 by omega]
                          exact P.goFrom_yes HDK.out HLK.out (ej ▸ tm)
                        have htl2 : t < gl.length := by
                          rcases Nat.lt_or_ge t gl.length with h | h
                          · exact h
                          · rw [List.drop_eq_nil_of_le h] at hgy; cases hgy
                        rw [List.drop_eq_getElem_cons htl2] at hgy
                        have hgt : gl[t]? = some d.name := by
                          rw [List.getElem?_eq_getElem htl2]
                          exact congrArg some (List.cons.inj hgy).1
                        have GN := Lib.hid (List.cons.inj hgy).2
                        obtain ⟨ad5, s, rfl, hsb, hsk, hsc⟩ := StrsAt.in_ (S6.out.below H7.out) htl2
                        rw [hgt] at hsk
                        cases hsk
                        have t4 : decide ((gl.length : Int) ≤ (t : Int)) = false := by simp; omega
                        have t5 : (d.name.toList == d.name.toList) = true := by simp
                        have t6 := ne_of t5
                        clear ej hgy hgt hsb
                        go_wp2_with fail
                        go_quiet (fail)
                        go_wp2
                        go_roundw
                        case rel => exact ⟨i + 1, t + 1, by omega, by go_num, by go_num, by omega, by omega, GN.out, H6.out.trans ((below_drewN H7.out _).mono H6.out.size)⟩
                        case measure => simp [intOf]; omega
                · go_loopw [9, 10] (fun o x wq => ∃ j : Nat, j ≤ i ∧ x = .int .i64 j ∧ o = .bool (P.mayTo ds ls j d l) ∧ Below wr.heap.size wr wq) (fun _ x _ => i - (intOf x).toNat)
                  case atStart => exact ⟨0, by omega, rfl, by rw [P.mayTo_zero, HO.out], Below.refl _ _⟩
                  case round =>
                    obtain ⟨j, hj, rfl, rfl, hb7⟩ := hrel
                    have H7 := Lib.hid hb7
                    have K7 := Lib.hid (K6.out.stays hb7)
                    have R7 := Lib.hid (R6.out.stays hb7)
                    have c0 := fun j => (K7.out).cell j
                    have c1 := fun j => (R7.out).cell j
                    obtain ⟨d0, d1, d2, d3, d4, d5, d6, d7, d8⟩ := HDC.out.keep hb7 HDB.out
                    clear hb7
                    by_cases hjl : j < i
                    · have t3 : decide ((j : Int) < (i : Int)) = true := by simp; omega
                      obtain ⟨ad3, e, ee, heb, hek, e0, e1, e2, e3, e4, e5, e6, e7, e8⟩ := (D6.out.below H7.out).in_ (k := j) (by omega)
                      cases ee
                      obtain ⟨ad4, x, ee, hxb, hxk, x0, x1, x2, x3, x4, x5⟩ := (L6.out.below H7.out).in_ (k := j) (by omega)
                      cases ee
                      have MS := Lib.hid (P.mayTo_step (d := d) (l := l) hek hxk)
                      clear hek hxk heb hxb
                      cases tc : (e.chain == d.chain)
                      · have NJ := Lib.hid (show P.mayTo ds ls (j + 1) d l = P.mayTo ds ls j d l from by rw [MS.out, tc]; simp)
                        clear MS
                        go_wp2_with fail
                        go_quiet (fail)
                        go_wp2
                        go_roundw
                        case rel => exact ⟨j + 1, by omega, by go_num, by rw [NJ.out], below_drewN H7.out _⟩
                        case measure => simp [intOf]; omega
                      · rcases P.open_key x with ⟨xo, tx | ⟨tx, tx2⟩⟩ | ⟨xo, tx, tx2⟩
                        · have NJ := Lib.hid (show P.mayTo ds ls (j + 1) d l = false from by rw [MS.out, tc, xo]; simp)
                          clear MS xo
                          go_wp2_with fail
                          go_quiet (fail)
                          go_wp2
                          go_roundw
                          case rel => exact ⟨j + 1, by omega, by go_num, by rw [NJ.out], below_drewN H7.out _⟩
                          case measure => simp [intOf]; omega
                        · have NJ := Lib.hid (show P.mayTo ds ls (j + 1) d l = false from by rw [MS.out, tc, xo]; simp)
                          clear MS xo
                          go_wp2_with fail
                          go_quiet (fail)
                          go_wp2
                          go_roundw
                          case rel => exact ⟨j + 1, by omega, by go_num, by rw [NJ.out], below_drewN H7.out _⟩
                          case measure => simp [intOf]; omega
                        · have NJ := Lib.hid (show P.mayTo ds ls (j + 1) d l = P.mayTo ds ls j d l from by rw [MS.out, tc, xo]; simp)
                          clear MS xo
                          go_wp2_with fail
                          go_quiet (fail)
                          go_wp2
                          go_roundw
                          case rel => exact ⟨j + 1, by omega, by go_num, by rw [NJ.out], below_drewN H7.out _⟩
                          case measure => simp [intOf]; omega
                    · have t3 : decide ((j : Int) < (i : Int)) = false := by simp; omega
                      have ej : j = i := by omega
                      cases tm : P.mayTo ds ls j d l
                      · have GN := Lib.hid (show gl.drop t = P.goFrom ds ls (m - (i + 1)) (i + 1) from by
                          rw [GD.out, show m - i = m - (i + 1) + 1 by omega]
                          exact P.goFrom_no HDK.out HLK.out (ej ▸ tm))
                        clear ej
                        go_wp2
                        go_roundw
                        case rel => exact ⟨i + 1, t, by omega, by go_num, rfl, by omega, by omega, GN.out, H6.out.trans (H7.out.mono H6.out.size)⟩
                        case measure => simp [intOf]; omega
                      · have hgy : gl.drop t = d.name :: P.goFrom ds ls (m - (i + 1)) (i + 1) := by
                          rw [GD.out, show m - i = m - (i + 1) + 1 by omega]
                          exact P.goFrom_yes HDK.out HLK.out (ej ▸ tm)
                        have htl2 : t < gl.length := by
                          rcases Nat.lt_or_ge t gl.length with h | h
                          · exact h
                          · rw [List.drop_eq_nil_of_le h] at hgy; cases hgy
                        rw [List.drop_eq_getElem_cons htl2] at hgy
                        have hgt : gl[t]? = some d.name := by
                          rw [List.getElem?_eq_getElem htl2]
                          exact congrArg some (List.cons.inj hgy).1
                        have GN := Lib.hid (List.cons.inj hgy).2
                        obtain ⟨ad5, s, rfl, hsb, hsk, hsc⟩ := StrsAt.in_ (S6.out.below H7.out) htl2
                        rw [hgt] at hsk
                        cases hsk
                        have t4 : decide ((gl.length : Int) ≤ (t : Int)) = false := by simp; omega
                        have t5 : (d.name.toList == d.name.toList) = true := by simp
                        have t6 := ne_of t5
                        clear ej hgy hgt hsb
                        go_wp2_with fail
                        go_quiet (fail)
                        go_wp2
                        go_roundw
                        case rel => exact ⟨i + 1, t + 1, by omega, by go_num, by go_num, by omega, by omega, GN.out, H6.out.trans ((below_drewN H7.out _).mono H6.out.size)⟩
                        case measure => simp [intOf]; omega
                · go_loopw [9, 10] (fun o x wq => ∃ j : Nat, j ≤ i ∧ x = .int .i64 j ∧ o = .bool (P.mayTo ds ls j d l) ∧ Below wr.heap.size wr wq) (fun _ x _ => i - (intOf x).toNat)
                  case atStart => exact ⟨0, by omega, rfl, by rw [P.mayTo_zero, HO.out], Below.refl _ _⟩
                  case round =>
                    obtain ⟨j, hj, rfl, rfl, hb7⟩ := hrel
                    have H7 := Lib.hid hb7
                    have K7 := Lib.hid (K6.out.stays hb7)
                    have R7 := Lib.hid (R6.out.stays hb7)
                    have c0 := fun j => (K7.out).cell j
                    have c1 := fun j => (R7.out).cell j
                    obtain ⟨d0, d1, d2, d3, d4, d5, d6, d7, d8⟩ := HDC.out.keep hb7 HDB.out
                    clear hb7
                    by_cases hjl : j < i
                    · have t3 : decide ((j : Int) < (i : Int)) = true := by simp; omega
                      obtain ⟨ad3, e, ee, heb, hek, e0, e1, e2, e3, e4, e5, e6, e7, e8⟩ := (D6.out.below H7.out).in_ (k := j) (by omega)
                      cases ee
                      obtain ⟨ad4, x, ee, hxb, hxk, x0, x1, x2, x3, x4, x5⟩ := (L6.out.below H7.out).in_ (k := j) (by omega)
                      cases ee
                      have MS := Lib.hid (P.mayTo_step (d := d) (l := l) hek hxk)
                      clear hek hxk heb hxb
                      cases tc : (e.chain == d.chain)
                      · have NJ := Lib.hid (show P.mayTo ds ls (j + 1) d l = P.mayTo ds ls j d l from by rw [MS.out, tc]; simp)
                        clear MS
                        go_wp2_with fail
                        go_quiet (fail)
                        go_wp2
                        go_roundw
                        case rel => exact ⟨j + 1, by omega, by go_num, by rw [NJ.out], below_drewN H7.out _⟩
                        case measure => simp [intOf]; omega
                      · rcases P.open_key x with ⟨xo, tx | ⟨tx, tx2⟩⟩ | ⟨xo, tx, tx2⟩
                        · have NJ := Lib.hid (show P.mayTo ds ls (j + 1) d l = false from by rw [MS.out, tc, xo]; simp)
                          clear MS xo
                          go_wp2_with fail
                          go_quiet (fail)
                          go_wp2
                          go_roundw
                          case rel => exact ⟨j + 1, by omega, by go_num, by rw [NJ.out], below_drewN H7.out _⟩
                          case measure => simp [intOf]; omega
                        · have NJ := Lib.hid (show P.mayTo ds ls (j + 1) d l = false from by rw [MS.out, tc, xo]; simp)
                          clear MS xo
                          go_wp2_with fail
                          go_quiet (fail)
                          go_wp2
                          go_roundw
                          case rel => exact ⟨j + 1, by omega, by go_num, by rw [NJ.out], below_drewN H7.out _⟩
                          case measure => simp [intOf]; omega
                        · have NJ := Lib.hid (show P.mayTo ds ls (j + 1) d l = P.mayTo ds ls j d l from by rw [MS.out, tc, xo]; simp)
                          clear MS xo
                          go_wp2_with fail
                          go_quiet (fail)
                          go_wp2
                          go_roundw
                          case rel => exact ⟨j + 1, by omega, by go_num, by rw [NJ.out], below_drewN H7.out _⟩
                          case measure => simp [intOf]; omega
                    · have t3 : decide ((j : Int) < (i : Int)) = false := by simp; omega
                      have ej : j = i := by omega
                      cases tm : P.mayTo ds ls j d l
                      · have GN := Lib.hid (show gl.drop t = P.goFrom ds ls (m - (i + 1)) (i + 1) from by
                          rw [GD.out, show m - i = m - (i + 1) + 1 by omega]
                          exact P.goFrom_no HDK.out HLK.out (ej ▸ tm))
                        clear ej
                        go_wp2
                        go_roundw
                        case rel => exact ⟨i + 1, t, by omega, by go_num, rfl, by omega, by omega, GN.out, H6.out.trans (H7.out.mono H6.out.size)⟩
                        case measure => simp [intOf]; omega
                      · have hgy : gl.drop t = d.name :: P.goFrom ds ls (m - (i + 1)) (i + 1) := by
                          rw [GD.out, show m - i = m - (i + 1) + 1 by omega]
                          exact P.goFrom_yes HDK.out HLK.out (ej ▸ tm)
                        have htl2 : t < gl.length := by
                          rcases Nat.lt_or_ge t gl.length with h | h
                          · exact h
                          · rw [List.drop_eq_nil_of_le h] at hgy; cases hgy
                        rw [List.drop_eq_getElem_cons htl2] at hgy
                        have hgt : gl[t]? = some d.name := by
                          rw [List.getElem?_eq_getElem htl2]
                          exact congrArg some (List.cons.inj hgy).1
                        have GN := Lib.hid (List.cons.inj hgy).2
                        obtain ⟨ad5, s, rfl, hsb, hsk, hsc⟩ := StrsAt.in_ (S6.out.below H7.out) htl2
                        rw [hgt] at hsk
                        cases hsk
                        have t4 : decide ((gl.length : Int) ≤ (t : Int)) = false := by simp; omega
                        have t5 : (d.name.toList == d.name.toList) = true := by simp
                        have t6 := ne_of t5
                        clear ej hgy hgt hsb
                        go_wp2_with fail
                        go_quiet (fail)
                        go_wp2
                        go_roundw
                        case rel => exact ⟨i + 1, t + 1, by omega, by go_num, by go_num, by omega, by omega, GN.out, H6.out.trans ((below_drewN H7.out _).mono H6.out.size)⟩
                        case measure => simp [intOf]; omega
              · have t1 : decide ((i : Int) < (m : Int)) = false := by simp; omega
                have tl : t = gl.length := by
                  have h1 := GD.out
                  rw [show m - i = 0 by omega, P.goFrom] at h1
                  have h2 := List.drop_eq_nil_iff.1 h1
                  omega
                have t2 : ((t : Int) == (gl.length : Int)) = true := by rw [tl]; simp
                have B6 := Lib.hid (B5.out.trans (H6.out.mono B5.out.size))
                have TE := Lib.hid (fun W (hW : Below wr.heap.size wr W) => terminal_any id run tm st dn flt raw A m cp ls _ W ((L6.out.below hW).more hW.size) (Nat.le_refl _) hm)
                clear tl
                cases tr : P.terminal st ls
                all_goals have t3 : ((gl.length : Int) == 0) = P.terminal st ls := by rw [← NE.out]; exact Bool.eq_iff_iff.2 (by simp)
                all_goals rw [tr] at t3
                all_goals go_wp2_with fail
                all_goals refine (AL.out _).mono ?_
                all_goals rintro x w7 ⟨rfl, hb7⟩
                all_goals have c1 := fun j => (R6.out.stays hb7).cell j
                all_goals have H7 := Lib.hid hb7
                all_goals clear hb7
                all_goals go_wp2_with fail
                all_goals refine (TE.out _ H7.out).mono ?_
                all_goals rw [tr]
                all_goals rintro x w8 ⟨rfl, hb8⟩
                all_goals have B8 := Lib.hid (B6.out.trans ((H7.out.trans (hb8.mono H7.out.size)).mono B6.out.size))
                all_goals clear hb8
                all_goals go_wp2
                all_goals go_ret
                all_goals exact ⟨rfl, B8.out⟩
      · have t2 : ((m : Int) != (n : Int)) = true := by rw [bne_iff_ne]; omega
        clear h3 hmn
        go_wp2_with fail
        refine (AL.out _).mono ?_
        rintro x w4 ⟨rfl, hb4⟩
        have B4 := Lib.hid (B3.out.trans (hb4.mono B3.out.size))
        clear hb4
        go_wp2
        go_ret
        exact ⟨rfl, B4.out⟩
    · have t1 : (st != 3) = true := by rw [bne_iff_ne]; exact h3
      clear h3
      go_wp2_with fail
      refine (AL.out _).mono ?_
      rintro x w4 ⟨rfl, hb4⟩
      have B4 := Lib.hid (B3.out.trans (hb4.mono B3.out.size))
      clear hb4
      go_wp2
      go_ret
      exact ⟨rfl, B4.out⟩
end Go.Proofs.Ytjbhlojfmcldjaa
