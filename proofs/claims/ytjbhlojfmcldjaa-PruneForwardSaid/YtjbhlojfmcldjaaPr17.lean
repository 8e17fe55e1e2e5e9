/- What PruneForward returns: true. -/
import Derived.Test.YtjbhlojfmcldjaaPr16
import Derived.Test.YtjbhlojfmcldjaaPlainForward
namespace Go.Proofs.Ytjbhlojfmcldjaa
set_option linter.unusedVariables false
open Go.RowKit Go.BigFrame
set_option maxRecDepth 100000 in
set_option maxHeartbeats 4000000 in
theorem pruneForward_any (id run tm st dn flt : Int) (raw : ByteArray) (A : Option Addr) (m cp : Nat) (la : List P.Leg) (idb runb tmb stb dnb fltb : Int) (rawb : ByteArray) (Ab : Option Addr) (mb cpb : Nat) (lb : List P.Leg) (idc runc tmc stc dnc fltc : Int) (rawc : ByteArray) (Ac : Option Addr) (mc cpc : Nat) (lc : List P.Leg) (B : Nat) (w : World)
    (ha : LegsAt w B A m la) (hb : LegsAt w B Ab mb lb) (hc : LegsAt w B Ac mc lc) (hB : B ≤ w.heap.size) (hx : ∀ l ∈ la, (Lit.int .i64 l.status).wf = true) (hy : ∀ l ∈ lb, (Lit.int .i64 l.status).wf = true) (hz : ∀ l ∈ lc, (Lit.int .i64 l.status).wf = true) :
    Calls Try.prog 3 #[.agg #[.int .i64 id, .int .i64 run, .int .i64 tm, .int .i64 st, .int .i64 dn, .string raw, .int .i64 flt, .slice A m cp], .agg #[.int .i64 idb, .int .i64 runb, .int .i64 tmb, .int .i64 stb, .int .i64 dnb, .string rawb, .int .i64 fltb, .slice Ab mb cpb], .agg #[.int .i64 idc, .int .i64 runc, .int .i64 tmc, .int .i64 stc, .int .i64 dnc, .string rawc, .int .i64 fltc, .slice Ac mc cpc]] w fun e w' => e = .returned (.bool true) ∧ Below w.heap.size w w' := by
  have hbel := ((((Below.refl w.heap.size w).alloc (Nat.le_refl _) (.cells #[.int .i64 id, .int .i64 run, .int .i64 tm, .int .i64 st, .int .i64 dn, .string raw, .int .i64 flt, .slice A m cp] 25)).alloc (by simp) (.cells #[.int .i64 idb, .int .i64 runb, .int .i64 tmb, .int .i64 stb, .int .i64 dnb, .string rawb, .int .i64 fltb, .slice Ab mb cpb] 25))).alloc (by simp; omega) (.cells #[.int .i64 idc, .int .i64 runc, .int .i64 tmc, .int .i64 stc, .int .i64 dnc, .string rawc, .int .i64 fltc, .slice Ac mc cpc] 25)
  have k0 := ((Blk.new w 25 #[.int .i64 id, .int .i64 run, .int .i64 tm, .int .i64 st, .int .i64 dn, .string raw, .int .i64 flt, .slice A m cp]).alloc (.cells #[.int .i64 idb, .int .i64 runb, .int .i64 tmb, .int .i64 stb, .int .i64 dnb, .string rawb, .int .i64 fltb, .slice Ab mb cpb] 25)).alloc (.cells #[.int .i64 idc, .int .i64 runc, .int .i64 tmc, .int .i64 stc, .int .i64 dnc, .string rawc, .int .i64 fltc, .slice Ac mc cpc] 25)
  have k1 := (Blk.new (w.alloc (.cells #[.int .i64 id, .int .i64 run, .int .i64 tm, .int .i64 st, .int .i64 dn, .string raw, .int .i64 flt, .slice A m cp] 25)) 25 #[.int .i64 idb, .int .i64 runb, .int .i64 tmb, .int .i64 stb, .int .i64 dnb, .string rawb, .int .i64 fltb, .slice Ab mb cpb]).alloc (.cells #[.int .i64 idc, .int .i64 runc, .int .i64 tmc, .int .i64 stc, .int .i64 dnc, .string rawc, .int .i64 fltc, .slice Ac mc cpc] 25)
  have k2 := Blk.new ((w.alloc (.cells #[.int .i64 id, .int .i64 run, .int .i64 tm, .int .i64 st, .int .i64 dn, .string raw, .int .i64 flt, .slice A m cp] 25)).alloc (.cells #[.int .i64 idb, .int .i64 runb, .int .i64 tmb, .int .i64 stb, .int .i64 dnb, .string rawb, .int .i64 fltb, .slice Ab mb cpb] 25)) 25 #[.int .i64 idc, .int .i64 runc, .int .i64 tmc, .int .i64 stc, .int .i64 dnc, .string rawc, .int .i64 fltc, .slice Ac mc cpc]
  rw [show (w.alloc (.cells #[.int .i64 id, .int .i64 run, .int .i64 tm, .int .i64 st, .int .i64 dn, .string raw, .int .i64 flt, .slice A m cp] 25)).heap.size = w.heap.size + 1 from by simp] at k1
  rw [show ((w.alloc (.cells #[.int .i64 id, .int .i64 run, .int .i64 tm, .int .i64 st, .int .i64 dn, .string raw, .int .i64 flt, .slice A m cp] 25)).alloc (.cells #[.int .i64 idb, .int .i64 runb, .int .i64 tmb, .int .i64 stb, .int .i64 dnb, .string rawb, .int .i64 fltb, .slice Ab mb cpb] 25)).heap.size = w.heap.size + 2 from by simp] at k2
  have hz3 : (((w.alloc (.cells #[.int .i64 id, .int .i64 run, .int .i64 tm, .int .i64 st, .int .i64 dn, .string raw, .int .i64 flt, .slice A m cp] 25)).alloc (.cells #[.int .i64 idb, .int .i64 runb, .int .i64 tmb, .int .i64 stb, .int .i64 dnb, .string rawb, .int .i64 fltb, .slice Ab mb cpb] 25)).alloc (.cells #[.int .i64 idc, .int .i64 runc, .int .i64 tmc, .int .i64 stc, .int .i64 dnc, .string rawc, .int .i64 fltc, .slice Ac mc cpc] 25)).heap.size = w.heap.size + 3 := by simp
  have KA := Lib.hid (alive_any (((w.alloc (.cells #[.int .i64 id, .int .i64 run, .int .i64 tm, .int .i64 st, .int .i64 dn, .string raw, .int .i64 flt, .slice A m cp] 25)).alloc (.cells #[.int .i64 idb, .int .i64 runb, .int .i64 tmb, .int .i64 stb, .int .i64 dnb, .string rawb, .int .i64 fltb, .slice Ab mb cpb] 25)).alloc (.cells #[.int .i64 idc, .int .i64 runc, .int .i64 tmc, .int .i64 stc, .int .i64 dnc, .string rawc, .int .i64 fltc, .slice Ac mc cpc] 25)))
  have LA := Lib.hid ha
  have LB := Lib.hid hb
  have LC := Lib.hid hc
  have HX := Lib.hid hx
  have HY := Lib.hid hy
  have HZ := Lib.hid hz
  have K0 := Lib.hid k0
  have K1 := Lib.hid k1
  have K2 := Lib.hid k2
  have BB := Lib.hid hbel
  have Z3 := Lib.hid hz3
  clear ha hb hc k0 k1 k2 hbel hx hy hz hz3
  by_cases hm : m ≤ 40 ∧ mb ≤ 40 ∧ mc ≤ 40
  · obtain ⟨hm, hmb, hmc⟩ := hm
    have t1 : decide ((40 : Int) < (m : Int)) = false := by simp; omega
    have t2 : decide ((40 : Int) < (mb : Int)) = false := by simp; omega
    have t3 : decide ((40 : Int) < (mc : Int)) = false := by simp; omega
    have FAA := Lib.hid (fun W (hW : Below (w.heap.size + 3) (((w.alloc (.cells #[.int .i64 id, .int .i64 run, .int .i64 tm, .int .i64 st, .int .i64 dn, .string raw, .int .i64 flt, .slice A m cp] 25)).alloc (.cells #[.int .i64 idb, .int .i64 runb, .int .i64 tmb, .int .i64 stb, .int .i64 dnb, .string rawb, .int .i64 fltb, .slice Ab mb cpb] 25)).alloc (.cells #[.int .i64 idc, .int .i64 runc, .int .i64 tmc, .int .i64 stc, .int .i64 dnc, .string rawc, .int .i64 fltc, .slice Ac mc cpc] 25)) W) => forward_any id run tm st dn flt raw A m cp la id run tm st dn flt raw A m cp la B W (LA.out.below ((BB.out.trans (hW.mono (by omega))).mono hB)) (LA.out.below ((BB.out.trans (hW.mono (by omega))).mono hB)) (Nat.le_trans hB (Nat.le_trans BB.out.size hW.size)) (by unfold maxLen; omega) (by unfold maxLen; omega) HX.out HX.out)
    have FAB := Lib.hid (fun W (hW : Below (w.heap.size + 3) (((w.alloc (.cells #[.int .i64 id, .int .i64 run, .int .i64 tm, .int .i64 st, .int .i64 dn, .string raw, .int .i64 flt, .slice A m cp] 25)).alloc (.cells #[.int .i64 idb, .int .i64 runb, .int .i64 tmb, .int .i64 stb, .int .i64 dnb, .string rawb, .int .i64 fltb, .slice Ab mb cpb] 25)).alloc (.cells #[.int .i64 idc, .int .i64 runc, .int .i64 tmc, .int .i64 stc, .int .i64 dnc, .string rawc, .int .i64 fltc, .slice Ac mc cpc] 25)) W) => forward_any id run tm st dn flt raw A m cp la idb runb tmb stb dnb fltb rawb Ab mb cpb lb B W (LA.out.below ((BB.out.trans (hW.mono (by omega))).mono hB)) (LB.out.below ((BB.out.trans (hW.mono (by omega))).mono hB)) (Nat.le_trans hB (Nat.le_trans BB.out.size hW.size)) (by unfold maxLen; omega) (by unfold maxLen; omega) HX.out HY.out)
    have FBC := Lib.hid (fun W (hW : Below (w.heap.size + 3) (((w.alloc (.cells #[.int .i64 id, .int .i64 run, .int .i64 tm, .int .i64 st, .int .i64 dn, .string raw, .int .i64 flt, .slice A m cp] 25)).alloc (.cells #[.int .i64 idb, .int .i64 runb, .int .i64 tmb, .int .i64 stb, .int .i64 dnb, .string rawb, .int .i64 fltb, .slice Ab mb cpb] 25)).alloc (.cells #[.int .i64 idc, .int .i64 runc, .int .i64 tmc, .int .i64 stc, .int .i64 dnc, .string rawc, .int .i64 fltc, .slice Ac mc cpc] 25)) W) => forward_any idb runb tmb stb dnb fltb rawb Ab mb cpb lb idc runc tmc stc dnc fltc rawc Ac mc cpc lc B W (LB.out.below ((BB.out.trans (hW.mono (by omega))).mono hB)) (LC.out.below ((BB.out.trans (hW.mono (by omega))).mono hB)) (Nat.le_trans hB (Nat.le_trans BB.out.size hW.size)) (by unfold maxLen; omega) (by unfold maxLen; omega) HY.out HZ.out)
    have FAC := Lib.hid (fun W (hW : Below (w.heap.size + 3) (((w.alloc (.cells #[.int .i64 id, .int .i64 run, .int .i64 tm, .int .i64 st, .int .i64 dn, .string raw, .int .i64 flt, .slice A m cp] 25)).alloc (.cells #[.int .i64 idb, .int .i64 runb, .int .i64 tmb, .int .i64 stb, .int .i64 dnb, .string rawb, .int .i64 fltb, .slice Ab mb cpb] 25)).alloc (.cells #[.int .i64 idc, .int .i64 runc, .int .i64 tmc, .int .i64 stc, .int .i64 dnc, .string rawc, .int .i64 fltc, .slice Ac mc cpc] 25)) W) => forward_any id run tm st dn flt raw A m cp la idc runc tmc stc dnc fltc rawc Ac mc cpc lc B W (LA.out.below ((BB.out.trans (hW.mono (by omega))).mono hB)) (LC.out.below ((BB.out.trans (hW.mono (by omega))).mono hB)) (Nat.le_trans hB (Nat.le_trans BB.out.size hW.size)) (by unfold maxLen; omega) (by unfold maxLen; omega) HX.out HZ.out)
    have TT := Lib.hid (fun W (hW : Below (w.heap.size + 3) (((w.alloc (.cells #[.int .i64 id, .int .i64 run, .int .i64 tm, .int .i64 st, .int .i64 dn, .string raw, .int .i64 flt, .slice A m cp] 25)).alloc (.cells #[.int .i64 idb, .int .i64 runb, .int .i64 tmb, .int .i64 stb, .int .i64 dnb, .string rawb, .int .i64 fltb, .slice Ab mb cpb] 25)).alloc (.cells #[.int .i64 idc, .int .i64 runc, .int .i64 tmc, .int .i64 stc, .int .i64 dnc, .string rawc, .int .i64 fltc, .slice Ac mc cpc] 25)) W) => tries_any id run tm st dn flt raw A m cp la idb runb tmb stb dnb fltb rawb Ab mb cpb lb idc runc tmc stc dnc fltc rawc Ac mc cpc lc B W (LA.out.below ((BB.out.trans (hW.mono (by omega))).mono hB)) (LC.out.below ((BB.out.trans (hW.mono (by omega))).mono hB)) (Nat.le_trans hB (Nat.le_trans BB.out.size hW.size)) (by unfold maxLen; omega) (by unfold maxLen; omega))
    have AL := Lib.hid (fun W => alive_any W)
    go_enter Try.func3, Try.ntmps3
    go_wp2_with fail
    refine (FAA.out _ (Below.refl _ _)).mono ?_
    rw [P.forward_refl]
    rintro x w4 ⟨rfl, hb4⟩
    have hb4 : Below (w.heap.size + 3) (((w.alloc (.cells #[.int .i64 id, .int .i64 run, .int .i64 tm, .int .i64 st, .int .i64 dn, .string raw, .int .i64 flt, .slice A m cp] 25)).alloc (.cells #[.int .i64 idb, .int .i64 runb, .int .i64 tmb, .int .i64 stb, .int .i64 dnb, .string rawb, .int .i64 fltb, .slice Ab mb cpb] 25)).alloc (.cells #[.int .i64 idc, .int .i64 runc, .int .i64 tmc, .int .i64 stc, .int .i64 dnc, .string rawc, .int .i64 fltc, .slice Ac mc cpc] 25)) w4 := hb4.mono (by rw [Z3.out]; omega)
    have c0 := fun i => (K0.out.below hb4 (by omega)).cell i
    have H4 := Lib.hid hb4
    clear hb4
    go_wp2_with fail
    refine (AL.out _).mono ?_
    rintro x w5 ⟨rfl, hb5⟩
    have hb5 : Below (w.heap.size + 3) (((w.alloc (.cells #[.int .i64 id, .int .i64 run, .int .i64 tm, .int .i64 st, .int .i64 dn, .string raw, .int .i64 flt, .slice A m cp] 25)).alloc (.cells #[.int .i64 idb, .int .i64 runb, .int .i64 tmb, .int .i64 stb, .int .i64 dnb, .string rawb, .int .i64 fltb, .slice Ab mb cpb] 25)).alloc (.cells #[.int .i64 idc, .int .i64 runc, .int .i64 tmc, .int .i64 stc, .int .i64 dnc, .string rawc, .int .i64 fltc, .slice Ac mc cpc] 25)) w5 := H4.out.trans (hb5.mono (Nat.le_trans (by rw [Z3.out]; omega) H4.out.size))
    have H5 := Lib.hid hb5
    have c0 := fun i => (K0.out.below hb5 (by omega)).cell i
    have c1 := fun i => (K1.out.below hb5 (by omega)).cell i
    clear hb5
    cases f1 : P.forward ⟨id, run, tm, st, dn, raw, flt⟩ ⟨idb, runb, tmb, stb, dnb, rawb, fltb⟩ la lb
    · go_wp2_with fail
      refine (FAB.out _ H5.out).mono ?_
      rw [f1]
      rintro x w6 ⟨rfl, hb6⟩
      have B6 := Lib.hid (BB.out.trans ((H5.out.mono (by omega)).trans (hb6.mono (Nat.le_trans BB.out.size H5.out.size))))
      clear hb6
      go_wp2
      go_ret
      exact ⟨rfl, B6.out⟩
    · go_wp2_with fail
      refine (FAB.out _ H5.out).mono ?_
      rw [f1]
      rintro x w6 ⟨rfl, hb6⟩
      have hb6 : Below (w.heap.size + 3) (((w.alloc (.cells #[.int .i64 id, .int .i64 run, .int .i64 tm, .int .i64 st, .int .i64 dn, .string raw, .int .i64 flt, .slice A m cp] 25)).alloc (.cells #[.int .i64 idb, .int .i64 runb, .int .i64 tmb, .int .i64 stb, .int .i64 dnb, .string rawb, .int .i64 fltb, .slice Ab mb cpb] 25)).alloc (.cells #[.int .i64 idc, .int .i64 runc, .int .i64 tmc, .int .i64 stc, .int .i64 dnc, .string rawc, .int .i64 fltc, .slice Ac mc cpc] 25)) w6 := H5.out.trans (hb6.mono (Nat.le_trans (by rw [Z3.out]; omega) H5.out.size))
      have H6 := Lib.hid hb6
      have c0 := fun i => (K0.out.below hb6 (by omega)).cell i
      have c1 := fun i => (K1.out.below hb6 (by omega)).cell i
      have c2 := fun i => (K2.out.below hb6 (by omega)).cell i
      clear hb6
      cases f2 : P.forward ⟨idb, runb, tmb, stb, dnb, rawb, fltb⟩ ⟨idc, runc, tmc, stc, dnc, rawc, fltc⟩ lb lc
      · go_wp2_with fail
        refine (FBC.out _ H6.out).mono ?_
        rw [f2]
        rintro x w7 ⟨rfl, hb7⟩
        have hb7 : Below (w.heap.size + 3) (((w.alloc (.cells #[.int .i64 id, .int .i64 run, .int .i64 tm, .int .i64 st, .int .i64 dn, .string raw, .int .i64 flt, .slice A m cp] 25)).alloc (.cells #[.int .i64 idb, .int .i64 runb, .int .i64 tmb, .int .i64 stb, .int .i64 dnb, .string rawb, .int .i64 fltb, .slice Ab mb cpb] 25)).alloc (.cells #[.int .i64 idc, .int .i64 runc, .int .i64 tmc, .int .i64 stc, .int .i64 dnc, .string rawc, .int .i64 fltc, .slice Ac mc cpc] 25)) w7 := H6.out.trans (hb7.mono (Nat.le_trans (by rw [Z3.out]; omega) H6.out.size))
        have H7 := Lib.hid hb7
        have c0 := fun i => (K0.out.below hb7 (by omega)).cell i
        have c1 := fun i => (K1.out.below hb7 (by omega)).cell i
        have c2 := fun i => (K2.out.below hb7 (by omega)).cell i
        clear hb7
        go_wp2
        go_ret
        exact ⟨rfl, BB.out.trans (H7.out.mono (by omega))⟩
      · go_wp2_with fail
        refine (FBC.out _ H6.out).mono ?_
        rw [f2]
        rintro x w7 ⟨rfl, hb7⟩
        have hb7 : Below (w.heap.size + 3) (((w.alloc (.cells #[.int .i64 id, .int .i64 run, .int .i64 tm, .int .i64 st, .int .i64 dn, .string raw, .int .i64 flt, .slice A m cp] 25)).alloc (.cells #[.int .i64 idb, .int .i64 runb, .int .i64 tmb, .int .i64 stb, .int .i64 dnb, .string rawb, .int .i64 fltb, .slice Ab mb cpb] 25)).alloc (.cells #[.int .i64 idc, .int .i64 runc, .int .i64 tmc, .int .i64 stc, .int .i64 dnc, .string rawc, .int .i64 fltc, .slice Ac mc cpc] 25)) w7 := H6.out.trans (hb7.mono (Nat.le_trans (by rw [Z3.out]; omega) H6.out.size))
        have H7 := Lib.hid hb7
        have c0 := fun i => (K0.out.below hb7 (by omega)).cell i
        have c1 := fun i => (K1.out.below hb7 (by omega)).cell i
        have c2 := fun i => (K2.out.below hb7 (by omega)).cell i
        clear hb7
        by_cases h3 : st = 3
        · have t5 : (st == 3) = true := by rw [h3]; rfl
          clear h3
          cases f3 : P.down la lc
          · have f4 := P.forward_trans f1 f2 (fun _ => f3)
            go_wp2_with fail
            with_reducible refine (TT.out _ H7.out).mono ?_
            rw [f3]
            rintro x w8 ⟨rfl, hb8⟩
            have hb8 : Below (w.heap.size + 3) (((w.alloc (.cells #[.int .i64 id, .int .i64 run, .int .i64 tm, .int .i64 st, .int .i64 dn, .string raw, .int .i64 flt, .slice A m cp] 25)).alloc (.cells #[.int .i64 idb, .int .i64 runb, .int .i64 tmb, .int .i64 stb, .int .i64 dnb, .string rawb, .int .i64 fltb, .slice Ab mb cpb] 25)).alloc (.cells #[.int .i64 idc, .int .i64 runc, .int .i64 tmc, .int .i64 stc, .int .i64 dnc, .string rawc, .int .i64 fltc, .slice Ac mc cpc] 25)) w8 := H7.out.trans (hb8.mono (Nat.le_trans (by rw [Z3.out]; omega) H7.out.size))
            have H8 := Lib.hid hb8
            have c0 := fun i => (K0.out.below hb8 (by omega)).cell i
            have c1 := fun i => (K1.out.below hb8 (by omega)).cell i
            have c2 := fun i => (K2.out.below hb8 (by omega)).cell i
            clear hb8
            go_wp2_with fail
            refine (FAC.out _ H8.out).mono ?_
            rw [f4]
            rintro x w9 ⟨rfl, hb9⟩
            have hb9 : Below (w.heap.size + 3) (((w.alloc (.cells #[.int .i64 id, .int .i64 run, .int .i64 tm, .int .i64 st, .int .i64 dn, .string raw, .int .i64 flt, .slice A m cp] 25)).alloc (.cells #[.int .i64 idb, .int .i64 runb, .int .i64 tmb, .int .i64 stb, .int .i64 dnb, .string rawb, .int .i64 fltb, .slice Ab mb cpb] 25)).alloc (.cells #[.int .i64 idc, .int .i64 runc, .int .i64 tmc, .int .i64 stc, .int .i64 dnc, .string rawc, .int .i64 fltc, .slice Ac mc cpc] 25)) w9 := H8.out.trans (hb9.mono (Nat.le_trans (by rw [Z3.out]; omega) H8.out.size))
            have H9 := Lib.hid hb9
            have c0 := fun i => (K0.out.below hb9 (by omega)).cell i
            have c1 := fun i => (K1.out.below hb9 (by omega)).cell i
            have c2 := fun i => (K2.out.below hb9 (by omega)).cell i
            clear hb9
            go_wp2
            go_ret
            exact ⟨rfl, BB.out.trans (H9.out.mono (by omega))⟩
          · go_wp2_with fail
            with_reducible refine (TT.out _ H7.out).mono ?_
            rw [f3]
            rintro x w8 ⟨rfl, hb8⟩
            have hb8 : Below (w.heap.size + 3) (((w.alloc (.cells #[.int .i64 id, .int .i64 run, .int .i64 tm, .int .i64 st, .int .i64 dn, .string raw, .int .i64 flt, .slice A m cp] 25)).alloc (.cells #[.int .i64 idb, .int .i64 runb, .int .i64 tmb, .int .i64 stb, .int .i64 dnb, .string rawb, .int .i64 fltb, .slice Ab mb cpb] 25)).alloc (.cells #[.int .i64 idc, .int .i64 runc, .int .i64 tmc, .int .i64 stc, .int .i64 dnc, .string rawc, .int .i64 fltc, .slice Ac mc cpc] 25)) w8 := H7.out.trans (hb8.mono (Nat.le_trans (by rw [Z3.out]; omega) H7.out.size))
            have H8 := Lib.hid hb8
            have c0 := fun i => (K0.out.below hb8 (by omega)).cell i
            have c1 := fun i => (K1.out.below hb8 (by omega)).cell i
            have c2 := fun i => (K2.out.below hb8 (by omega)).cell i
            clear hb8
            go_wp2
            go_ret
            exact ⟨rfl, BB.out.trans (H8.out.mono (by omega))⟩
        · have t5 : (st == 3) = false := by rw [beq_eq_false_iff_ne]; exact h3
          have f4 := P.forward_trans f1 f2 (fun h => absurd h h3)
          clear h3
          go_wp2_with fail
          refine (FAC.out _ H7.out).mono ?_
          rw [f4]
          rintro x w8 ⟨rfl, hb8⟩
          have hb8 : Below (w.heap.size + 3) (((w.alloc (.cells #[.int .i64 id, .int .i64 run, .int .i64 tm, .int .i64 st, .int .i64 dn, .string raw, .int .i64 flt, .slice A m cp] 25)).alloc (.cells #[.int .i64 idb, .int .i64 runb, .int .i64 tmb, .int .i64 stb, .int .i64 dnb, .string rawb, .int .i64 fltb, .slice Ab mb cpb] 25)).alloc (.cells #[.int .i64 idc, .int .i64 runc, .int .i64 tmc, .int .i64 stc, .int .i64 dnc, .string rawc, .int .i64 fltc, .slice Ac mc cpc] 25)) w8 := H7.out.trans (hb8.mono (Nat.le_trans (by rw [Z3.out]; omega) H7.out.size))
          have H8 := Lib.hid hb8
          have c0 := fun i => (K0.out.below hb8 (by omega)).cell i
          have c1 := fun i => (K1.out.below hb8 (by omega)).cell i
          have c2 := fun i => (K2.out.below hb8 (by omega)).cell i
          clear hb8
          go_wp2
          go_ret
          exact ⟨rfl, BB.out.trans (H8.out.mono (by omega))⟩
  · by_cases h1 : m ≤ 40
    · have t1 : decide ((40 : Int) < (m : Int)) = false := by simp; omega
      by_cases h2 : mb ≤ 40
      · have t2 : decide ((40 : Int) < (mb : Int)) = false := by simp; omega
        have t3 : decide ((40 : Int) < (mc : Int)) = true := by simp; omega
        go_enter Try.func3, Try.ntmps3
        go_wp2_with fail
        refine KA.out.mono ?_
        rintro x w2 ⟨rfl, hb2⟩
        have B2 := Lib.hid (BB.out.trans (hb2.mono (by rw [Z3.out]; omega)))
        go_wp2
        go_ret
        exact ⟨rfl, B2.out⟩
      · have t2 : decide ((40 : Int) < (mb : Int)) = true := by simp; omega
        go_enter Try.func3, Try.ntmps3
        go_wp2_with fail
        refine KA.out.mono ?_
        rintro x w2 ⟨rfl, hb2⟩
        have B2 := Lib.hid (BB.out.trans (hb2.mono (by rw [Z3.out]; omega)))
        go_wp2
        go_ret
        exact ⟨rfl, B2.out⟩
    · have t1 : decide ((40 : Int) < (m : Int)) = true := by simp; omega
      go_enter Try.func3, Try.ntmps3
      go_wp2_with fail
      refine KA.out.mono ?_
      rintro x w2 ⟨rfl, hb2⟩
      have B2 := Lib.hid (BB.out.trans (hb2.mono (by rw [Z3.out]; omega)))
      go_wp2
      go_ret
      exact ⟨rfl, B2.out⟩
end Go.Proofs.Ytjbhlojfmcldjaa
