/- What SameRow says of a row and its like. -/
import Derived.Test.YtjbhlojfmcldjabDue2
namespace Go.Proofs.Ytjbhlojfmcldjab
set_option linter.unusedVariables false
open Go.RowKit Go.BigFrame
set_option maxRecDepth 100000 in
set_option maxHeartbeats 4000000 in
theorem sameRow_any (id run tm st dn flt : Int) (raw : ByteArray) (A : Option Addr) (m cp : Nat) (ls : List P.Leg) (Ab : Option Addr) (cpb : Nat) (B : Nat) (w : World)
    (ha : LegsAt w B A m ls) (hb : LegsAt w B Ab m ls) (hB : B ≤ w.heap.size) (hm : m ≤ maxLen) :
    Calls Try.prog 35 #[.agg #[.int .i64 id, .int .i64 run, .int .i64 tm, .int .i64 st, .int .i64 dn, .string raw, .int .i64 flt, .slice A m cp], .agg #[.int .i64 id, .int .i64 run, .int .i64 tm, .int .i64 st, .int .i64 dn, .string raw, .int .i64 flt, .slice Ab m cpb]] w fun e w' => e = .returned (.bool true) ∧ Below w.heap.size w w' := by
  unfold maxLen at hm
  have hbel := ((Below.refl w.heap.size w).alloc (Nat.le_refl _) (.cells #[.int .i64 id, .int .i64 run, .int .i64 tm, .int .i64 st, .int .i64 dn, .string raw, .int .i64 flt, .slice A m cp] 33)).alloc (by simp) (.cells #[.int .i64 id, .int .i64 run, .int .i64 tm, .int .i64 st, .int .i64 dn, .string raw, .int .i64 flt, .slice Ab m cpb] 33)
  have k0 := (Blk.new w 33 #[.int .i64 id, .int .i64 run, .int .i64 tm, .int .i64 st, .int .i64 dn, .string raw, .int .i64 flt, .slice A m cp]).alloc (.cells #[.int .i64 id, .int .i64 run, .int .i64 tm, .int .i64 st, .int .i64 dn, .string raw, .int .i64 flt, .slice Ab m cpb] 33)
  have k1 := Blk.new (w.alloc (.cells #[.int .i64 id, .int .i64 run, .int .i64 tm, .int .i64 st, .int .i64 dn, .string raw, .int .i64 flt, .slice A m cp] 33)) 33 #[.int .i64 id, .int .i64 run, .int .i64 tm, .int .i64 st, .int .i64 dn, .string raw, .int .i64 flt, .slice Ab m cpb]
  rw [show (w.alloc (.cells #[.int .i64 id, .int .i64 run, .int .i64 tm, .int .i64 st, .int .i64 dn, .string raw, .int .i64 flt, .slice A m cp] 33)).heap.size = w.heap.size + 1 from by simp] at k1
  have HA := Lib.hid ha
  have HBB := Lib.hid hb
  have K0 := Lib.hid k0
  have K1 := Lib.hid k1
  have BB := Lib.hid hbel
  have c0 := fun i => k0.cell i
  have c1 := fun i => k1.cell i
  have t1 : (id != id) = false := by simp
  have t2 : (run != run) = false := by simp
  have t3 : (tm != tm) = false := by simp
  have t4 : (st != st) = false := by simp
  have t5 : (dn != dn) = false := by simp
  have t6 : (raw.toList == raw.toList) = true := by simp
  have t7 : (flt != flt) = false := by simp
  have t8 : ((m : Int) != (m : Int)) = false := by simp
  clear ha hb hbel k0 k1
  go_enter Try.func35, Try.ntmps35
  go_wp2_with fail
  clear c0 c1 t1 t2 t3 t4 t5 t6 t7 t8
  go_loopw [5] (fun x wr => ∃ k : Nat, k ≤ m ∧ x = .int .i64 k ∧ Below (w.heap.size + 2) ((w.alloc (.cells #[.int .i64 id, .int .i64 run, .int .i64 tm, .int .i64 st, .int .i64 dn, .string raw, .int .i64 flt, .slice A m cp] 33)).alloc (.cells #[.int .i64 id, .int .i64 run, .int .i64 tm, .int .i64 st, .int .i64 dn, .string raw, .int .i64 flt, .slice Ab m cpb] 33)) wr) (fun x _ => m - (intOf x).toNat)
  case atStart => exact ⟨0, by omega, rfl, Below.refl _ _⟩
  case round =>
    obtain ⟨k, hk, rfl, hbel⟩ := hrel
    have HB := Lib.hid hbel
    have BW := Lib.hid (BB.out.trans (hbel.mono (by omega)))
    have c0 := fun i => (K0.out.below hbel (by omega)).cell i
    have c1 := fun i => (K1.out.below hbel (by omega)).cell i
    clear hbel
    by_cases hlt : k < m
    · have v1 : decide ((k : Int) < (m : Int)) = true := by simp; omega
      obtain ⟨ad, x, rfl, hxb, hxk, x0, x1, x2, x3, x4, x5⟩ := (HA.out.below (BW.out.mono hB)).in_ hlt
      obtain ⟨ad2, y, rfl, hyb, hyk, y0, y1, y2, y3, y4, y5⟩ := (HBB.out.below (BW.out.mono hB)).in_ hlt
      obtain rfl : y = x := Option.some.inj (hyk.symm.trans hxk)
      have nq := fun W => neq_leg y W
      clear hxk hyk hxb hyb
      go_wp2_with fail
      go_quiet (fail)
      go_wp2
      go_roundw
      case rel => exact ⟨k + 1, by omega, by go_num, below_drewN HB.out _⟩
      case measure => simp [intOf]; omega
    · have v1 : decide ((k : Int) < (m : Int)) = false := by simp; omega
      go_wp2
      go_ret
      exact ⟨rfl, BW.out⟩
set_option maxRecDepth 100000 in
set_option maxHeartbeats 4000000 in
theorem stays_any (id run tm st dn flt : Int) (raw : ByteArray) (g m cp : Nat) (ls : List P.Leg) (Ab : Option Addr) (cpb : Nat) (B : Nat) (w : World)
    (ha : LegsAt w B (some ⟨g, 0, none⟩) m ls) (hmark : w.cell? ⟨g, m * 6, none⟩ = some (.string ⟨#[109, 97, 114, 107]⟩)) (hg : g < w.heap.size) (hcp : m + 1 ≤ cp) (hcm : cp ≤ maxLen) (hb : LegsAt w B Ab m ls) (hB : B ≤ w.heap.size) :
    Calls Try.prog 17 #[.agg #[.int .i64 id, .int .i64 run, .int .i64 tm, .int .i64 st, .int .i64 dn, .string raw, .int .i64 flt, .slice (some ⟨g, 0, none⟩) m cp], .agg #[.int .i64 id, .int .i64 run, .int .i64 tm, .int .i64 st, .int .i64 dn, .string raw, .int .i64 flt, .slice Ab m cpb]] w fun e w' => e = .returned (.bool true) ∧ Below w.heap.size w w' := by
  have hcm' := hcm
  unfold maxLen at hcm'
  have hbel := ((Below.refl w.heap.size w).alloc (Nat.le_refl _) (.cells #[.int .i64 id, .int .i64 run, .int .i64 tm, .int .i64 st, .int .i64 dn, .string raw, .int .i64 flt, .slice (some ⟨g, 0, none⟩) m cp] 33)).alloc (by simp) (.cells #[.int .i64 id, .int .i64 run, .int .i64 tm, .int .i64 st, .int .i64 dn, .string raw, .int .i64 flt, .slice Ab m cpb] 33)
  have k0 := (Blk.new w 33 #[.int .i64 id, .int .i64 run, .int .i64 tm, .int .i64 st, .int .i64 dn, .string raw, .int .i64 flt, .slice (some ⟨g, 0, none⟩) m cp]).alloc (.cells #[.int .i64 id, .int .i64 run, .int .i64 tm, .int .i64 st, .int .i64 dn, .string raw, .int .i64 flt, .slice Ab m cpb] 33)
  have k1 := Blk.new (w.alloc (.cells #[.int .i64 id, .int .i64 run, .int .i64 tm, .int .i64 st, .int .i64 dn, .string raw, .int .i64 flt, .slice (some ⟨g, 0, none⟩) m cp] 33)) 33 #[.int .i64 id, .int .i64 run, .int .i64 tm, .int .i64 st, .int .i64 dn, .string raw, .int .i64 flt, .slice Ab m cpb]
  rw [show (w.alloc (.cells #[.int .i64 id, .int .i64 run, .int .i64 tm, .int .i64 st, .int .i64 dn, .string raw, .int .i64 flt, .slice (some ⟨g, 0, none⟩) m cp] 33)).heap.size = w.heap.size + 1 from by simp] at k1
  have hmk := (hbel.cell (p := ⟨g, m * 6, none⟩) hg).trans hmark
  have ha2 := (ha.below (hbel.mono hB)).more (Nat.le_trans hB hbel.size)
  have hb2 := (hb.below (hbel.mono hB)).more (Nat.le_trans hB hbel.size)
  have hg2 := Nat.lt_of_lt_of_le hg hbel.size
  obtain ⟨w2, hw2⟩ : ∃ w2, w2 = ((w.alloc (.cells #[.int .i64 id, .int .i64 run, .int .i64 tm, .int .i64 st, .int .i64 dn, .string raw, .int .i64 flt, .slice (some ⟨g, 0, none⟩) m cp] 33)).alloc (.cells #[.int .i64 id, .int .i64 run, .int .i64 tm, .int .i64 st, .int .i64 dn, .string raw, .int .i64 flt, .slice Ab m cpb] 33)) := ⟨_, rfl⟩
  rw [← hw2] at hbel k0 k1 hmk ha2 hb2 hg2
  have SR : ∀ x : Ext w2, Calls Try.prog 35 #[.agg #[.int .i64 id, .int .i64 run, .int .i64 tm, .int .i64 st, .int .i64 dn, .string raw, .int .i64 flt, .slice (some ⟨g, 0, none⟩) m cp], .agg #[.int .i64 id, .int .i64 run, .int .i64 tm, .int .i64 st, .int .i64 dn, .string raw, .int .i64 flt, .slice Ab m cpb]] x.wd fun e w' => e = .returned (.bool true) ∧ Below x.wd.heap.size x.wd w' := fun x =>
    sameRow_any id run tm st dn flt raw (some ⟨g, 0, none⟩) m cp ls Ab cpb x.wd.heap.size x.wd ((ha2.below x.hb).more x.hb.size) ((hb2.below x.hb).more x.hb.size) (Nat.le_refl _) (by omega)
  have cellA : ∀ x : Ext w2, ∀ i, x.wd.cell? ⟨w.heap.size, i, none⟩ = (#[.int .i64 id, .int .i64 run, .int .i64 tm, .int .i64 st, .int .i64 dn, .string raw, .int .i64 flt, .slice (some ⟨g, 0, none⟩) m cp] : Array Value)[i]? := fun x i => by rw [x.cell k0.lt, k0.cell]
  have cellB : ∀ x : Ext w2, ∀ i, x.wd.cell? ⟨w.heap.size + 1, i, none⟩ = (#[.int .i64 id, .int .i64 run, .int .i64 tm, .int .i64 st, .int .i64 dn, .string raw, .int .i64 flt, .slice Ab m cpb] : Array Value)[i]? := fun x i => by rw [x.cell k1.lt, k1.cell]
  have cellM : ∀ x : Ext w2, x.wd.cell? ⟨g, m * 6, none⟩ = some (.string ⟨#[109, 97, 114, 107]⟩) := fun x => by rw [x.cell hg2, hmk]
  have SR := Lib.hid SR
  have BB := Lib.hid hbel
  have HW := Lib.hid hw2
  clear ha hb hmark hbel k0 k1 ha2 hb2 hmk hw2
  go_enter Try.func17, Try.ntmps17
  go_wp2_with fail
  rw [← HW.out]
  refine wp_region_ext (by kernel_rfl) (by kernel_rfl) ?_
  repeat (first | go_big_quiet_step ((go_at_call 35; exact Ext.calls _ (SR.out _))) | quiet_step ((go_at_call 35; exact Ext.calls _ (SR.out _))))
  refine wpQuiet_nil ?_
  intro w3 hb3
  have B3 := Lib.hid (BB.out.trans (hb3.mono BB.out.size))
  clear hb3 cellA cellB cellM
  go_wp2
  go_ret
  exact ⟨rfl, B3.out⟩
end Go.Proofs.Ytjbhlojfmcldjab
