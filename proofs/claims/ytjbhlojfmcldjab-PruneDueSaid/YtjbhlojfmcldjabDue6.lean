/- What PruneDue returns: true. -/
import Derived.Test.YtjbhlojfmcldjabDue5
import Derived.Test.YtjbhlojfmcldjabDue3
namespace Go.Proofs.Ytjbhlojfmcldjab
set_option linter.unusedVariables false
open Go.RowKit Go.BigFrame
set_option maxRecDepth 100000 in
set_option maxHeartbeats 4000000 in
theorem pruneDue_any (RA : Option Addr) (rn rc : Nat) (rs : List P.RowV) (now ret : Int) (id run tm st dn flt : Int) (raw : ByteArray) (A : Option Addr) (m cp : Nat) (la : List P.Leg) (idb runb tmb stb dnb fltb : Int) (rawb : ByteArray) (Ab : Option Addr) (mb cpb : Nat) (lb : List P.Leg) (B : Nat) (w : World)
    (hr : RowsAt w B RA rn rs) (ha : LegsAt w B A m la) (hb : LegsAt w B Ab mb lb) (hB : B ≤ w.heap.size) (hrn : rn ≤ maxLen) (hm : m ≤ maxLen) (hmb : mb ≤ maxLen)
    (hN : ∀ r ∈ rs, r.A = none → r.m = 0 ∧ r.cp = 0) (hd : ∀ r ∈ rs, (Lit.int .i64 r.done).wf = true) (h2 : -9223372036854775808 ≤ now) (h3 : now ≤ 9223372036854775807) (h4 : -9223372036854775808 ≤ ret) (h5 : ret ≤ 9223372036854775807)
    (hx : ∀ l ∈ la, (Lit.int .i64 l.status).wf = true) (hy : ∀ l ∈ lb, (Lit.int .i64 l.status).wf = true) :
    Calls Try.prog 5 #[.slice RA rn rc, .int .i64 now, .int .i64 ret, .agg #[.int .i64 id, .int .i64 run, .int .i64 tm, .int .i64 st, .int .i64 dn, .string raw, .int .i64 flt, .slice A m cp], .agg #[.int .i64 idb, .int .i64 runb, .int .i64 tmb, .int .i64 stb, .int .i64 dnb, .string rawb, .int .i64 fltb, .slice Ab mb cpb]] w fun e w' => e = .returned (.bool true) ∧ Below w.heap.size w w' := by
  have hbel := ((Below.refl w.heap.size w).alloc (Nat.le_refl _) (.cells #[.int .i64 id, .int .i64 run, .int .i64 tm, .int .i64 st, .int .i64 dn, .string raw, .int .i64 flt, .slice A m cp] 33)).alloc (by simp) (.cells #[.int .i64 idb, .int .i64 runb, .int .i64 tmb, .int .i64 stb, .int .i64 dnb, .string rawb, .int .i64 fltb, .slice Ab mb cpb] 33)
  have k0 := (Blk.new w 33 #[.int .i64 id, .int .i64 run, .int .i64 tm, .int .i64 st, .int .i64 dn, .string raw, .int .i64 flt, .slice A m cp]).alloc (.cells #[.int .i64 idb, .int .i64 runb, .int .i64 tmb, .int .i64 stb, .int .i64 dnb, .string rawb, .int .i64 fltb, .slice Ab mb cpb] 33)
  have k1 := Blk.new (w.alloc (.cells #[.int .i64 id, .int .i64 run, .int .i64 tm, .int .i64 st, .int .i64 dn, .string raw, .int .i64 flt, .slice A m cp] 33)) 33 #[.int .i64 idb, .int .i64 runb, .int .i64 tmb, .int .i64 stb, .int .i64 dnb, .string rawb, .int .i64 fltb, .slice Ab mb cpb]
  rw [show (w.alloc (.cells #[.int .i64 id, .int .i64 run, .int .i64 tm, .int .i64 st, .int .i64 dn, .string raw, .int .i64 flt, .slice A m cp] 33)).heap.size = w.heap.size + 1 from by simp] at k1
  have hz : ((w.alloc (.cells #[.int .i64 id, .int .i64 run, .int .i64 tm, .int .i64 st, .int .i64 dn, .string raw, .int .i64 flt, .slice A m cp] 33)).alloc (.cells #[.int .i64 idb, .int .i64 runb, .int .i64 tmb, .int .i64 stb, .int .i64 dnb, .string rawb, .int .i64 fltb, .slice Ab mb cpb] 33)).heap.size = w.heap.size + 2 := by simp
  have AL := Lib.hid (fun W => alive_any W)
  have HR := Lib.hid hr
  have HA := Lib.hid ha
  have HB2 := Lib.hid hb
  have HN := Lib.hid hN
  have HDW := Lib.hid hd
  have HX := Lib.hid hx
  have HY := Lib.hid hy
  have K0 := Lib.hid k0
  have K1 := Lib.hid k1
  have BB := Lib.hid hbel
  have Z2 := Lib.hid hz
  have c0 := fun i => k0.cell i
  have c1 := fun i => k1.cell i
  clear hr ha hb hN hd hx hy hbel hz k0 k1
  by_cases g1 : rn ≤ 200
  · have t1 : decide ((200 : Int) < (rn : Int)) = false := by simp; omega
    by_cases g2 : m ≤ 40
    · have t2 : decide ((40 : Int) < (m : Int)) = false := by simp; omega
      by_cases g3 : mb ≤ 40
      · have t3 : decide ((40 : Int) < (mb : Int)) = false := by simp; omega
        go_enter Try.func5, Try.ntmps5
        go_wp2_with fail
        clear c0 c1 t1 t2 t3
        go_loopw [11, 12] (fun v x wr => ∃ (k : Nat) (lr : List P.RowV), k ≤ rn ∧ x = .int .i64 k ∧ lr.length = k ∧ OwnR wr (w.heap.size + 2) v lr ∧ LentAll wr (w.heap.size + 2) (rs.take k) lr ∧ Below (w.heap.size + 2) ((w.alloc (.cells #[.int .i64 id, .int .i64 run, .int .i64 tm, .int .i64 st, .int .i64 dn, .string raw, .int .i64 flt, .slice A m cp] 33)).alloc (.cells #[.int .i64 idb, .int .i64 runb, .int .i64 tmb, .int .i64 stb, .int .i64 dnb, .string rawb, .int .i64 fltb, .slice Ab mb cpb] 33)) wr) (fun _ x _ => rn - (intOf x).toNat)
        case atStart => exact ⟨0, [], by omega, rfl, rfl, OwnR.nil _ _, fun j r r' h => by simp at h, Below.refl _ _⟩
        case round =>
          obtain ⟨k, lr, hk, rfl, hlk, hown, hlent, hbel⟩ := hrel
          have HW := Lib.hid hbel
          have BW := Lib.hid (BB.out.trans (hbel.mono (by omega)))
          have hzr : w.heap.size + 2 ≤ wr.heap.size := by have := hbel.size; rw [Z2.out] at this; exact this
          have OR := Lib.hid hown
          have LE := Lib.hid hlent
          have LK := Lib.hid hlk
          clear hown hlent hbel hlk
          by_cases hlt : k < rn
          · have t4 : decide ((k : Int) < (rn : Int)) = true := by simp; omega
            obtain ⟨ad, r, rfl, hrb, hrk, hrl, hrm, c0, c1, c2, c3, c4, c5, c6, c7⟩ := (HR.out.below (BW.out.mono hB)).in_ hlt
            have HRK := Lib.hid hrk
            have hmem := List.mem_of_getElem? hrk
            have HRL := Lib.hid hrl
            clear hrk
            by_cases g4 : r.m ≤ 40
            · have t5 : decide ((40 : Int) < (r.m : Int)) = false := by simp; omega
              have LN := Lib.hid (lent_any r.id r.run r.time r.state r.done r.fault r.raw r.A r.m r.cp r.legs B wr HRL.out (HN.out r hmem) (Nat.le_trans hB BW.out.size) (by omega))
              go_wp2_with fail
              refine LN.out.mono ?_
              rintro x w3 ⟨g, cap, rfl, ho3, hb3⟩
              have hs3 : Stays wr w3 := hb3
              have zz : w.heap.size + 2 ≤ w3.heap.size := Nat.le_trans hzr hs3.size
              have OR3 := Lib.hid ((OR.out.stays hs3).alloc (.cells #[.int .i64 r.id, .int .i64 r.run, .int .i64 r.time, .int .i64 r.state, .int .i64 r.done, .string r.raw, .int .i64 r.fault, .slice (some ⟨g, 0, none⟩) r.m cap] 33))
              have LO3 := Lib.hid ((ho3.less (B' := w.heap.size + 2) hzr).alloc (.cells #[.int .i64 r.id, .int .i64 r.run, .int .i64 r.time, .int .i64 r.state, .int .i64 r.done, .string r.raw, .int .i64 r.fault, .slice (some ⟨g, 0, none⟩) r.m cap] 33))
              have SA := Lib.hid (hs3.trans (Stays.alloc w3 (.cells #[.int .i64 r.id, .int .i64 r.run, .int .i64 r.time, .int .i64 r.state, .int .i64 r.done, .string r.raw, .int .i64 r.fault, .slice (some ⟨g, 0, none⟩) r.m cap] 33)))
              clear hb3 hs3 ho3 c0 c1 c2 c3 c4 c5 c6 c7
              go_wp2_with (at_builtin; refine wpList_append_row1 rfl (.tmp 45) (.tmp 51) rfl (w.heap.size + 2) u11 lr rfl OR3.out ⟨w3.heap.size, 0, none⟩ { r with A := some ⟨g, 0, none⟩, cp := cap } rfl (newsR w3 33 { r with A := some ⟨g, 0, none⟩, cp := cap }) (by have := LK.out; omega) (by simp; omega) ?_; intro v4 w4 hown4 hb4 hg4)
              have W4 := Lib.hid (HW.out.trans ((SA.out.mono hzr).trans hb4))
              have LE4 := Lib.hid (show LentAll w4 (w.heap.size + 2) (rs.take (k + 1)) (lr ++ [{ r with A := some ⟨g, 0, none⟩, cp := cap }]) from fun j a b hja hjb => by
                have hlen := LK.out
                have hrl := HR.out.len
                rcases Nat.lt_or_ge j k with h1 | h1
                · rw [List.getElem?_append_left (by omega)] at hjb
                  rw [List.getElem?_take, if_pos (by omega)] at hja
                  exact ((LE.out j a b (by rw [List.getElem?_take, if_pos h1]; exact hja) hjb).stays SA.out).beside OR3.out hg4
                · have hjk : j = k := by
                    rw [List.getElem?_take] at hja
                    split at hja
                    · omega
                    · cases hja
                  subst hjk
                  rw [List.getElem?_append_right (by omega), hlen] at hjb
                  rw [List.getElem?_take, if_pos (by omega), HRK.out] at hja
                  cases hja
                  simp at hjb
                  subst hjb
                  exact ⟨g, cap, rfl, LO3.out.beside OR3.out hg4⟩)
              have LK4 := Lib.hid (show (lr ++ [({ r with A := some ⟨g, 0, none⟩, cp := cap } : P.RowV)]).length = k + 1 from by rw [List.length_append, LK.out]; rfl)
              clear hb4 hg4
              go_wp2
              go_roundw
              case rel => exact ⟨k + 1, _, by omega, by go_num, LK4.out, hown4, LE4.out, W4.out⟩
              case measure => simp [intOf]; omega
            · have t5 : decide ((40 : Int) < (r.m : Int)) = true := by simp; omega
              go_wp2_with fail
              refine (AL.out _).mono ?_
              rintro x w3 ⟨rfl, hb3⟩
              have B3 := Lib.hid (BW.out.trans (hb3.mono BW.out.size))
              clear hb3
              go_wp2
              go_ret
              exact ⟨rfl, B3.out⟩
          · have t4 : decide ((k : Int) < (rn : Int)) = false := by simp; omega
            have hkn : k = rn := by omega
            have hrl := HR.out.len
            have hrm : ∀ r ∈ rs, r.m ≤ maxLen := fun r hr => (HR.out.legs r hr).2
            have LA := LE.out
            rw [List.take_of_length_le (by omega)] at LA
            have hll : lr.length = rs.length := by rw [LK.out]; omega
            obtain ⟨AR, cR, rfl, hrows⟩ := lent_rows OR.out hll LA hrm
            have hlrn : lr.length = rn := by omega
            rw [hlrn] at hrows
            have hdl : ∀ r' ∈ lr, (Lit.int .i64 r'.done).wf = true := fun r' hr' => by
              obtain ⟨j, hj⟩ := List.getElem?_of_mem hr'
              have hjl : j < lr.length := by
                rcases Nat.lt_or_ge j lr.length with h1 | h1
                · exact h1
                · rw [List.getElem?_eq_none h1] at hj; cases hj
              obtain ⟨r, hjr⟩ : ∃ r, rs[j]? = some r := ⟨_, List.getElem?_eq_getElem (by omega)⟩
              obtain ⟨g, cap, e, _⟩ := LA j r r' hjr hj
              rw [e]
              exact HDW.out r (List.mem_of_getElem? hjr)
            have DU := due_any AR rn cR lr now ret wr.heap.size wr hrows (Nat.le_refl _) (by omega) hdl h2 h3 h4 h5
            rw [lent_due now ret hll LA] at DU
            have DU := Lib.hid DU
            have LAL := Lib.hid LA
            have ROWS := Lib.hid hrows
            have HLL := Lib.hid hll
            rw [hlrn]
            clear hrl hrm LA hll hrows hlrn hdl hkn LE OR LK
            go_wp2_with fail
            refine DU.out.mono ?_
            rintro x w4 ⟨vi, rfl, hi, hb4⟩
            have S4 := Lib.hid (show Stays wr w4 from hb4)
            have I4 := Lib.hid hi
            have B4 := Lib.hid (BW.out.trans (hb4.mono BW.out.size))
            have ORG := Lib.hid ((HR.out.below (B4.out.mono hB)).more (Nat.le_trans hB B4.out.size))
            have LNT := Lib.hid ((ROWS.out.below hb4).more hb4.size)
            have LAL4 := Lib.hid (show LentAll w4 (w.heap.size + 2) rs lr from fun j a b ha hb => (LAL.out j a b ha hb).stays S4.out)
            clear hi hb4 t4
            go_wp2_with fail
            go_loopw [14] (fun x wq => ∃ k : Nat, k ≤ rn ∧ x = .int .i64 k ∧ Stays w4 wq) (fun x _ => rn - (intOf x).toNat)
            case atStart => exact ⟨0, by omega, rfl, Stays.refl _⟩
            case round =>
              obtain ⟨q, hq, rfl, hbq⟩ := hrel
              have SQ := Lib.hid hbq
              clear hbq
              by_cases hlq : q < rn
              · have t5 : decide ((q : Int) < (rn : Int)) = true := by simp; omega
                obtain ⟨a1, r, rfl, hrb, hrk, hrl, hrm, hrc⟩ := (ORG.out.below SQ.out).in_ hlq
                obtain ⟨a2, r', rfl, hrb', hrk', hrl', hrm', hrc'⟩ := (LNT.out.below SQ.out).in_ hlq
                obtain ⟨g, cap, rfl, hol⟩ := LAL4.out q r r' hrk hrk'
                have hol := hol.stays SQ.out
                obtain ⟨hfr, hmk, hgl, _⟩ := hol.front
                have hcap := hol.cap
                have RC1 := Lib.hid hrc
                have RC2 := Lib.hid hrc'
                have hz4 : w4.heap.size ≤ wr.heap.size := SQ.out.size
                have RB1 := Lib.hid (show (a1.add (q * 8)).block < wr.heap.size from Nat.lt_of_lt_of_le hrb hz4)
                have RB2 := Lib.hid (show (a2.add (q * 8)).block < wr.heap.size from Nat.lt_of_lt_of_le hrb' hz4)
                have ST := Lib.hid (fun W (hW : Stays wr W) => stays_any r.id r.run r.time r.state r.done r.fault r.raw g r.m cap r.legs r.A r.cp W.heap.size W ((hfr.below hW).more hW.size) ((hW.cell (p := ⟨g, r.m * 6, none⟩) hgl).trans hmk) (Nat.lt_of_lt_of_le hgl hW.size) hcap.1 hcap.2 (((hrl.more hz4).below hW).more hW.size) (Nat.le_refl _))
                clear hrk hrk' hrl hrl' hrc hrc' hol hfr hmk hgl hcap hrb hrb'
                go_wp2_with fail
                refine wp_region_free 10 [] Stays (fun _ => none) (by kernel_rfl) (by kernel_rfl) Stays.refl (by simp) (Stays.draw _) Stays.trans (fun j φ v x y hB => by cases hB) ?_
                apply wpFree_pure rfl rfl
                · intro vs wx hk K hK
                  go_simp
                  exact hK _ (Stays.refl _)
                intro KK hKK
                go_simp
                refine hKK _ ?_
                clear hKK KK
                apply wpFree_pure rfl rfl
                · intro vs wx hk K hK
                  go_simp
                  exact hK _ (Stays.refl _)
                intro KK hKK
                go_simp
                refine hKK _ ?_
                clear hKK KK
                apply wpFree_pure rfl rfl
                · intro vs wx hk K hK
                  go_simp
                  exact hK _ (Stays.refl _)
                intro KK hKK
                go_simp
                refine hKK _ ?_
                clear hKK KK
                apply wpFree_pure rfl rfl
                · intro vs wx hk K hK
                  obtain ⟨d0, d1, d2, d3, d4, d5, d6, d7⟩ := RC2.out.keep hk.1 RB2.out
                  go_simp
                  exact hK _ (Stays.refl _)
                intro KK hKK
                go_simp
                refine hKK _ ?_
                clear hKK KK
                apply wpFree_pure rfl rfl
                · intro vs wx hk K hK
                  go_simp
                  exact hK _ (Stays.refl _)
                intro KK hKK
                go_simp
                refine hKK _ ?_
                clear hKK KK
                apply wpFree_pure rfl rfl
                · intro vs wx hk K hK
                  go_simp
                  exact hK _ (Stays.refl _)
                intro KK hKK
                go_simp
                refine hKK _ ?_
                clear hKK KK
                apply wpFree_pure rfl rfl
                · intro vs wx hk K hK
                  go_simp
                  exact hK _ (Stays.refl _)
                intro KK hKK
                go_simp
                refine hKK _ ?_
                clear hKK KK
                apply wpFree_pure rfl rfl
                · intro vs wx hk K hK
                  obtain ⟨d0, d1, d2, d3, d4, d5, d6, d7⟩ := RC1.out.keep hk.1 RB1.out
                  go_simp
                  exact hK _ (Stays.refl _)
                intro KK hKK
                go_simp
                refine hKK _ ?_
                clear hKK KK
                apply wpFree_pure rfl rfl
                · intro vs wx hk K hK
                  have CS := ST.out wx hk.1
                  go_simp
                  first
                    | exact hK _ (Stays.refl _)
                    | exact Calls.free hK CS
                intro KK hKK
                go_simp
                refine hKK _ ?_
                clear hKK KK
                apply wpFree_pure rfl rfl
                · intro vs wx hk K hK
                  go_simp
                  exact hK _ (Stays.refl _)
                intro KK hKK
                go_simp
                refine hKK _ ?_
                clear hKK KK
                refine wpFree_nil ?_
                intro vs w6 hs6 _
                intro KK hKK
                simp only [List.drop_succ_cons, List.drop_nil]
                have S6 := Lib.hid (SQ.out.trans hs6)
                clear hs6
                go_wp2
                go_roundw
                case rel => exact ⟨q + 1, by omega, by go_num, S6.out⟩
                case measure => simp [intOf]; omega
              · have t5 : decide ((q : Int) < (rn : Int)) = false := by simp; omega
                obtain ⟨Ai, ci, rfl⟩ := I4.out.form
                have SW := Lib.hid (B4.out.trans (SQ.out.mono B4.out.size))
                have I5 := Lib.hid (I4.out.stays SQ.out)
                have hdl : (P.due now ret rs).length ≤ 200 := by
                  have := P.due_le now ret rs
                  rw [HR.out.len] at this
                  omega
                have HW5 := Lib.hid (HW.out.trans ((S4.out.trans SQ.out).mono hzr))
                have RDU := Lib.hid (fun W (hW : Stays wr W) => refDue_any RA rn rc rs now ret W.heap.size W (((ORG.out.below SQ.out).more SQ.out.size).below hW |>.more hW.size) (Nat.le_refl _) (by omega) HDW.out h2 h3 h4 h5)
                have LA5 := Lib.hid ((HA.out.below (SW.out.mono hB)).more (Nat.le_trans hB SW.out.size))
                have LB5 := Lib.hid ((HB2.out.below (SW.out.mono hB)).more (Nat.le_trans hB SW.out.size))
                have FW := Lib.hid (fun W (hW : Stays wr W) => forward_any id run tm st dn flt raw A m cp la idb runb tmb stb dnb fltb rawb Ab mb cpb lb W.heap.size W ((LA5.out.below hW).more hW.size) ((LB5.out.below hW).more hW.size) (Nat.le_refl _) hm hmb HX.out HY.out)
                have RF := Lib.hid (fun W (hW : Stays wr W) => refForward_any id run tm st dn flt raw A m cp la idb runb tmb stb dnb fltb rawb Ab mb cpb lb W.heap.size W ((LA5.out.below hW).more hW.size) ((LB5.out.below hW).more hW.size) (Nat.le_refl _) hm hmb)
                generalize P.forward ⟨id, run, tm, st, dn, raw, flt⟩ ⟨idb, runb, tmb, stb, dnb, rawb, fltb⟩ la lb = fw at *
                have K05 := Lib.hid (K0.out.below HW5.out (by omega))
                have K15 := Lib.hid (K1.out.below HW5.out (by omega))
                generalize P.due now ret rs = dl at *
                have fe : (fw == fw) = true := by simp
                clear t5
                go_wp2_with fail
                refine wp_region_free 19 [] Stays (fun | 6 => some (fun v w' => OwnI w' wr.heap.size v dl) | _ => none) (by kernel_rfl) (by kernel_rfl) Stays.refl (by simp) (Stays.draw _) Stays.trans ?_ ?_
                · intro j φ v x y hB hp hxy
                  split at hB <;> cases hB
                  exact hp.stays hxy
                · apply wpFree_pure rfl rfl
                  · intro vs wx hk K hK
                    go_simp
                    first
                      | exact hK _ (Stays.refl _)
                      | exact Calls.free hK (AL.out wx)
                  intro KK hKK
                  go_simp
                  refine hKK _ ?_
                  clear hKK KK
                  apply wpFree_pure rfl rfl
                  · intro vs wx hk K hK
                    go_simp
                    exact hK _ (Stays.refl _)
                  intro KK hKK
                  go_simp
                  refine hKK _ ?_
                  clear hKK KK
                  apply wpFree_pure rfl rfl
                  · intro vs wx hk K hK
                    go_simp
                    exact hK _ (Stays.refl _)
                  intro KK hKK
                  go_simp
                  refine hKK _ ?_
                  clear hKK KK
                  apply wpFree_pure rfl rfl
                  · intro vs wx hk K hK
                    go_simp
                    exact hK _ (Stays.refl _)
                  intro KK hKK
                  go_simp
                  refine hKK _ ?_
                  clear hKK KK
                  apply wpFree_pure rfl rfl
                  · intro vs wx hk K hK
                    go_simp
                    exact hK _ (Stays.refl _)
                  intro KK hKK
                  go_simp
                  refine hKK _ ?_
                  clear hKK KK
                  apply wpFree_pure rfl rfl
                  · intro vs wx hk K hK
                    go_simp
                    exact hK _ (Stays.refl _)
                  intro KK hKK
                  go_simp
                  refine hKK _ ?_
                  clear hKK KK
                  refine wpFree_fact rfl ?_ ?_
                  · intro vs wx hk K hK
                    go_simp
                    refine (RDU.out wx hk.1).mono ?_
                    rintro x wy ⟨v, rfl, hown, hby⟩
                    exact ⟨_, rfl, hK _ _ hby (hown.less hk.1.size)⟩
                  intro KK hKK
                  go_simp
                  refine hKK _ ?_
                  clear hKK KK
                  apply wpFree_pure rfl rfl
                  · intro vs wx hk K hK
                    have ho := hk.2 6 _ rfl (by kernel_rfl)
                    obtain ⟨A6, c6, hv6⟩ := OwnI.form ho
                    rw [hv6] at ho
                    have SI := sameInts_any Ai A6 dl.length ci c6 wx.heap.size dl wx (I5.out.stays hk.1).ints.1 (OwnI.ints ho).1 (Nat.le_refl _) (by unfold maxLen; omega)
                    go_simp
                    first
                      | exact hK _ (Stays.refl _)
                      | exact Calls.free hK SI
                  intro KK hKK
                  go_simp
                  refine hKK _ ?_
                  clear hKK KK
                  apply wpFree_pure rfl rfl
                  · intro vs wx hk K hK
                    go_simp
                    exact hK _ (Stays.refl _)
                  intro KK hKK
                  go_simp
                  refine hKK _ ?_
                  clear hKK KK
                  apply wpFree_pure rfl rfl
                  · intro vs wx hk K hK
                    go_simp
                    exact hK _ (Stays.refl _)
                  intro KK hKK
                  go_simp
                  refine hKK _ ?_
                  clear hKK KK
                  apply wpFree_pure rfl rfl
                  · intro vs wx hk K hK
                    have c0 := fun i => (K05.out.stays hk.1).cell i
                    go_simp
                    exact hK _ (Stays.refl _)
                  intro KK hKK
                  go_simp
                  refine hKK _ ?_
                  clear hKK KK
                  apply wpFree_pure rfl rfl
                  · intro vs wx hk K hK
                    have c1 := fun i => (K15.out.stays hk.1).cell i
                    go_simp
                    exact hK _ (Stays.refl _)
                  intro KK hKK
                  go_simp
                  refine hKK _ ?_
                  clear hKK KK
                  apply wpFree_pure rfl rfl
                  · intro vs wx hk K hK
                    go_simp
                    first
                      | exact hK _ (Stays.refl _)
                      | exact Calls.free hK (FW.out wx hk.1)
                  intro KK hKK
                  go_simp
                  refine hKK _ ?_
                  clear hKK KK
                  apply wpFree_pure rfl rfl
                  · intro vs wx hk K hK
                    have c0 := fun i => (K05.out.stays hk.1).cell i
                    go_simp
                    exact hK _ (Stays.refl _)
                  intro KK hKK
                  go_simp
                  refine hKK _ ?_
                  clear hKK KK
                  apply wpFree_pure rfl rfl
                  · intro vs wx hk K hK
                    have c1 := fun i => (K15.out.stays hk.1).cell i
                    go_simp
                    exact hK _ (Stays.refl _)
                  intro KK hKK
                  go_simp
                  refine hKK _ ?_
                  clear hKK KK
                  apply wpFree_pure rfl rfl
                  · intro vs wx hk K hK
                    go_simp
                    first
                      | exact hK _ (Stays.refl _)
                      | exact Calls.free hK (RF.out wx hk.1)
                  intro KK hKK
                  go_simp
                  refine hKK _ ?_
                  clear hKK KK
                  apply wpFree_pure rfl rfl
                  · intro vs wx hk K hK
                    go_simp
                    exact hK _ (Stays.refl _)
                  intro KK hKK
                  go_simp
                  refine hKK _ ?_
                  clear hKK KK
                  apply wpFree_pure rfl rfl
                  · intro vs wx hk K hK
                    go_simp
                    exact hK _ (Stays.refl _)
                  intro KK hKK
                  go_simp
                  refine hKK _ ?_
                  clear hKK KK
                  apply wpFree_pure rfl rfl
                  · intro vs wx hk K hK
                    go_simp
                    exact hK _ (Stays.refl _)
                  intro KK hKK
                  go_simp
                  refine hKK _ ?_
                  clear hKK KK
                  refine wpFree_nil ?_
                  intro vs w6 hs6 _
                  intro KK hKK
                  simp only [List.drop_succ_cons, List.drop_nil]
                  have S6 := Lib.hid hs6
                  clear hs6
                  go_wp2
                  go_ret
                  exact ⟨rfl, SW.out.trans (S6.out.mono SW.out.size)⟩
      · have t3 : decide ((40 : Int) < (mb : Int)) = true := by simp; omega
        go_enter Try.func5, Try.ntmps5
        go_wp2_with fail
        refine (AL.out _).mono ?_
        rintro x w3 ⟨rfl, hb3⟩
        have B3 := Lib.hid (BB.out.trans (hb3.mono BB.out.size))
        clear hb3
        go_wp2
        go_ret
        exact ⟨rfl, B3.out⟩
    · have t2 : decide ((40 : Int) < (m : Int)) = true := by simp; omega
      go_enter Try.func5, Try.ntmps5
      go_wp2_with fail
      refine (AL.out _).mono ?_
      rintro x w3 ⟨rfl, hb3⟩
      have B3 := Lib.hid (BB.out.trans (hb3.mono BB.out.size))
      clear hb3
      go_wp2
      go_ret
      exact ⟨rfl, B3.out⟩
  · have t1 : decide ((200 : Int) < (rn : Int)) = true := by simp; omega
    go_enter Try.func5, Try.ntmps5
    go_wp2_with fail
    refine (AL.out _).mono ?_
    rintro x w3 ⟨rfl, hb3⟩
    have B3 := Lib.hid (BB.out.trans (hb3.mono BB.out.size))
    clear hb3
    go_wp2
    go_ret
    exact ⟨rfl, B3.out⟩
end Go.Proofs.Ytjbhlojfmcldjab
