/- What tries returns: is there a leg that moved, and whose tries went down? -/
import Derived.Test.YtjbhlojfmcldjaaPr15
import Derived.BigQuiet
namespace Go.Proofs.Ytjbhlojfmcldjaa
set_option linter.unusedVariables false
open Go.RowKit Go.BigFrame
namespace P
theorem down_at {a c : List Leg} {k : Nat} {x z : Leg} (hx : a[k]? = some x) (hz : c[k]? = some z) : down (a.drop k) (c.drop k) = (downLeg x z || down (a.drop (k + 1)) (c.drop (k + 1))) := by
  rw [drop_at hx, drop_at hz, down]
theorem down_end {a c : List Leg} {k : Nat} (h : a.length ≤ k ∨ c.length ≤ k) : down (a.drop k) (c.drop k) = false := by
  rcases h with h | h
  · rw [List.drop_eq_nil_of_le h]
    cases c.drop k <;> rfl
  · rw [List.drop_eq_nil_of_le h]
    cases a.drop k <;> rfl
end P
set_option maxRecDepth 100000 in
set_option maxHeartbeats 4000000 in
theorem tries_any (id run tm st dn flt : Int) (raw : ByteArray) (A : Option Addr) (m cp : Nat) (la : List P.Leg) (idb runb tmb stb dnb fltb : Int) (rawb : ByteArray) (Ab : Option Addr) (mb cpb : Nat) (lb : List P.Leg) (idc runc tmc stc dnc fltc : Int) (rawc : ByteArray) (Ac : Option Addr) (mc cpc : Nat) (lc : List P.Leg) (B : Nat) (w : World)
    (ha : LegsAt w B A m la) (hc : LegsAt w B Ac mc lc) (hB : B ≤ w.heap.size) (hm : m ≤ maxLen) (hmc : mc ≤ maxLen) :
    Calls Try.prog 9 #[.agg #[.int .i64 id, .int .i64 run, .int .i64 tm, .int .i64 st, .int .i64 dn, .string raw, .int .i64 flt, .slice A m cp], .agg #[.int .i64 idb, .int .i64 runb, .int .i64 tmb, .int .i64 stb, .int .i64 dnb, .string rawb, .int .i64 fltb, .slice Ab mb cpb], .agg #[.int .i64 idc, .int .i64 runc, .int .i64 tmc, .int .i64 stc, .int .i64 dnc, .string rawc, .int .i64 fltc, .slice Ac mc cpc]] w fun e w' => e = .returned (.bool (P.down la lc)) ∧ Below w.heap.size w w' := by
  unfold maxLen at hm hmc
  have hbel := ((((Below.refl w.heap.size w).alloc (Nat.le_refl _) (.cells #[.int .i64 id, .int .i64 run, .int .i64 tm, .int .i64 st, .int .i64 dn, .string raw, .int .i64 flt, .slice A m cp] 25)).alloc (by simp) (.cells #[.int .i64 idb, .int .i64 runb, .int .i64 tmb, .int .i64 stb, .int .i64 dnb, .string rawb, .int .i64 fltb, .slice Ab mb cpb] 25))).alloc (by simp; omega) (.cells #[.int .i64 idc, .int .i64 runc, .int .i64 tmc, .int .i64 stc, .int .i64 dnc, .string rawc, .int .i64 fltc, .slice Ac mc cpc] 25)
  have k0 := ((Blk.new w 25 #[.int .i64 id, .int .i64 run, .int .i64 tm, .int .i64 st, .int .i64 dn, .string raw, .int .i64 flt, .slice A m cp]).alloc (.cells #[.int .i64 idb, .int .i64 runb, .int .i64 tmb, .int .i64 stb, .int .i64 dnb, .string rawb, .int .i64 fltb, .slice Ab mb cpb] 25)).alloc (.cells #[.int .i64 idc, .int .i64 runc, .int .i64 tmc, .int .i64 stc, .int .i64 dnc, .string rawc, .int .i64 fltc, .slice Ac mc cpc] 25)
  have k2 := Blk.new ((w.alloc (.cells #[.int .i64 id, .int .i64 run, .int .i64 tm, .int .i64 st, .int .i64 dn, .string raw, .int .i64 flt, .slice A m cp] 25)).alloc (.cells #[.int .i64 idb, .int .i64 runb, .int .i64 tmb, .int .i64 stb, .int .i64 dnb, .string rawb, .int .i64 fltb, .slice Ab mb cpb] 25)) 25 #[.int .i64 idc, .int .i64 runc, .int .i64 tmc, .int .i64 stc, .int .i64 dnc, .string rawc, .int .i64 fltc, .slice Ac mc cpc]
  rw [show ((w.alloc (.cells #[.int .i64 id, .int .i64 run, .int .i64 tm, .int .i64 st, .int .i64 dn, .string raw, .int .i64 flt, .slice A m cp] 25)).alloc (.cells #[.int .i64 idb, .int .i64 runb, .int .i64 tmb, .int .i64 stb, .int .i64 dnb, .string rawb, .int .i64 fltb, .slice Ab mb cpb] 25)).heap.size = w.heap.size + 2 from by simp] at k2
  have HA := Lib.hid ha
  have HC := Lib.hid hc
  have K0 := Lib.hid k0
  have K2 := Lib.hid k2
  have BB := Lib.hid hbel
  have HZ := Lib.hid (show (((w.alloc (.cells #[.int .i64 id, .int .i64 run, .int .i64 tm, .int .i64 st, .int .i64 dn, .string raw, .int .i64 flt, .slice A m cp] 25)).alloc (.cells #[.int .i64 idb, .int .i64 runb, .int .i64 tmb, .int .i64 stb, .int .i64 dnb, .string rawb, .int .i64 fltb, .slice Ab mb cpb] 25)).alloc (.cells #[.int .i64 idc, .int .i64 runc, .int .i64 tmc, .int .i64 stc, .int .i64 dnc, .string rawc, .int .i64 fltc, .slice Ac mc cpc] 25)).heap.size = w.heap.size + 3 from by simp)
  clear ha hc k0 k2 hbel
  go_enter Try.func9, Try.ntmps9
  go_wp2_with fail
  go_loopw [7] (fun x wr => ∃ k : Nat, k ≤ m ∧ k ≤ mc ∧ x = .int .i64 k ∧ P.down (la.drop k) (lc.drop k) = P.down la lc ∧ Below (w.heap.size + 3) (((w.alloc (.cells #[.int .i64 id, .int .i64 run, .int .i64 tm, .int .i64 st, .int .i64 dn, .string raw, .int .i64 flt, .slice A m cp] 25)).alloc (.cells #[.int .i64 idb, .int .i64 runb, .int .i64 tmb, .int .i64 stb, .int .i64 dnb, .string rawb, .int .i64 fltb, .slice Ab mb cpb] 25)).alloc (.cells #[.int .i64 idc, .int .i64 runc, .int .i64 tmc, .int .i64 stc, .int .i64 dnc, .string rawc, .int .i64 fltc, .slice Ac mc cpc] 25)) wr) (fun x _ => m - (intOf x).toNat)
  case atStart => exact ⟨0, by omega, by omega, rfl, rfl, Below.refl _ _⟩
  case round =>
    obtain ⟨k, hk, hkc, rfl, hdn, hbel⟩ := hrel
    have c0 := fun i => (K0.out.below hbel (by omega)).cell i
    have c2 := fun i => (K2.out.below hbel (by omega)).cell i
    have hbw := BB.out.trans (hbel.mono (by omega))
    have HW := Lib.hid hbw
    have HD := Lib.hid hdn
    have HB := Lib.hid hbel
    clear hdn hbel hbw
    by_cases hlt : k < m
    · have t1 : decide ((k : Int) < (m : Int)) = true := by simp; omega
      by_cases hltc : k < mc
      · have t2 : decide ((k : Int) < (mc : Int)) = true := by simp; omega
        obtain ⟨ad, x, rfl, hxb, hxk, hxc⟩ := (HA.out.below (HW.out.mono hB)).in_ hlt
        obtain ⟨ad2, y, rfl, hyb, hyk, hyc⟩ := (HC.out.below (HW.out.mono hB)).in_ hltc
        obtain ⟨a0, a1, a2, a3, a4, a5⟩ := hxc
        obtain ⟨b0, b1, b2, b3, b4, b5⟩ := hyc
        have HM := Lib.hid ((HD.out.symm.trans (P.down_at hxk hyk)))
        clear hxk hyk
        cases t3 : (x.status == y.status)
        · have t4 := ne_of t3
          cases t5 : decide (y.tries < x.tries)
          · have HR := Lib.hid (show P.down (la.drop (k + 1)) (lc.drop (k + 1)) = P.down la lc from by rw [HM.out, P.downLeg, t5, Bool.and_false, Bool.false_or])
            clear HM
            go_wp2_with fail
            go_quiet (fail)
            go_wp2
            go_roundw
            case rel => exact ⟨k + 1, by omega, by omega, by go_num, HR.out, below_drewN HB.out _⟩
            case measure => simp [intOf]; omega
          · have HR := Lib.hid (show P.down la lc = true from by rw [HM.out, P.downLeg, t4, t5]; rfl)
            clear HM
            go_wp2_with fail
            go_quiet (fail)
            go_wp2
            go_ret
            rw [HR.out]
            exact ⟨rfl, below_drewN HW.out _⟩
        · have t4 := ne_of t3
          have HR := Lib.hid (show P.down (la.drop (k + 1)) (lc.drop (k + 1)) = P.down la lc from by rw [HM.out, P.downLeg, t4]; rfl)
          clear HM
          go_wp2_with fail
          go_quiet (fail)
          go_wp2
          go_roundw
          case rel => exact ⟨k + 1, by omega, by omega, by go_num, HR.out, below_drewN HB.out _⟩
          case measure => simp [intOf]; omega
      · have t2 : decide ((k : Int) < (mc : Int)) = false := by simp; omega
        have HR := Lib.hid (HD.out.symm.trans (P.down_end (Or.inr (by rw [HC.out.len]; omega))))
        go_wp2
        go_ret
        rw [HR.out]
        exact ⟨rfl, HW.out⟩
    · have t1 : decide ((k : Int) < (m : Int)) = false := by simp; omega
      have HR := Lib.hid (HD.out.symm.trans (P.down_end (Or.inl (by rw [HA.out.len]; omega))))
      go_wp2
      go_ret
      rw [HR.out]
      exact ⟨rfl, HW.out⟩
end Go.Proofs.Ytjbhlojfmcldjaa
