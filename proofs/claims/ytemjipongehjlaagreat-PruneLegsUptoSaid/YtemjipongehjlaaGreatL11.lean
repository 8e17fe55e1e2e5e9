/- What SameRow says of a row and its like. -/
import Derived.Test.YtemjipongehjlaaGreatL10
import Derived.Test.YtemjipongehjlaaGreatL5
import Derived.Test.YtemjipongehjlaaGreatL7
namespace Go.Proofs.YtemjipongehjlaaGreat
set_option linter.unusedVariables false
open Go.RowKit Go.BigFrame
set_option maxRecDepth 100000 in
set_option maxHeartbeats 4000000 in
theorem sameRow_any (id run tm st dn flt : Int) (raw : ByteArray) (A : Option Addr) (m cp : Nat) (ls : List P.Leg) (Ab : Option Addr) (cpb : Nat) (B : Nat) (w : World)
    (ha : LegsAt w B A m ls) (hb : LegsAt w B Ab m ls) (hB : B ≤ w.heap.size) (hm : m ≤ maxLen) :
    Calls Tryz.prog 18 #[.agg #[.int .i64 id, .int .i64 run, .int .i64 tm, .int .i64 st, .int .i64 dn, .string raw, .int .i64 flt, .slice A m cp], .agg #[.int .i64 id, .int .i64 run, .int .i64 tm, .int .i64 st, .int .i64 dn, .string raw, .int .i64 flt, .slice Ab m cpb]] w fun e w' => e = .returned (.bool true) ∧ Below w.heap.size w w' := by
  unfold maxLen at hm
  have hbel := ((Below.refl w.heap.size w).alloc (Nat.le_refl _) (.cells #[.int .i64 id, .int .i64 run, .int .i64 tm, .int .i64 st, .int .i64 dn, .string raw, .int .i64 flt, .slice A m cp] 28)).alloc (by simp) (.cells #[.int .i64 id, .int .i64 run, .int .i64 tm, .int .i64 st, .int .i64 dn, .string raw, .int .i64 flt, .slice Ab m cpb] 28)
  have k0 := (Blk.new w 28 #[.int .i64 id, .int .i64 run, .int .i64 tm, .int .i64 st, .int .i64 dn, .string raw, .int .i64 flt, .slice A m cp]).alloc (.cells #[.int .i64 id, .int .i64 run, .int .i64 tm, .int .i64 st, .int .i64 dn, .string raw, .int .i64 flt, .slice Ab m cpb] 28)
  have k1 := Blk.new (w.alloc (.cells #[.int .i64 id, .int .i64 run, .int .i64 tm, .int .i64 st, .int .i64 dn, .string raw, .int .i64 flt, .slice A m cp] 28)) 28 #[.int .i64 id, .int .i64 run, .int .i64 tm, .int .i64 st, .int .i64 dn, .string raw, .int .i64 flt, .slice Ab m cpb]
  rw [show (w.alloc (.cells #[.int .i64 id, .int .i64 run, .int .i64 tm, .int .i64 st, .int .i64 dn, .string raw, .int .i64 flt, .slice A m cp] 28)).heap.size = w.heap.size + 1 from by simp] at k1
  have HA := Lib.hid ha
  have HBB := Lib.hid hb
  have K0 := Lib.hid k0
  have K1 := Lib.hid k1
  have BB := Lib.hid hbel
  have c0 := fun i => k0.cell i
  have c1 := fun i => k1.cell i
  have t1 : (id != id) = false := by simp
  have t2 : (run != run) = false := by simp
  have t3 : (tm != tm) = false := by simp
  have t4 : (st != st) = false := by simp
  have t5 : (dn != dn) = false := by simp
  have t6 : (raw.toList == raw.toList) = true := by simp
  have t7 : (flt != flt) = false := by simp
  have t8 : ((m : Int) != (m : Int)) = false := by simp
  clear ha hb hbel k0 k1
  go_enter Tryz.func18, Tryz.ntmps18
  go_wp2_with fail
  clear c0 c1 t1 t2 t3 t4 t5 t6 t7 t8
  go_loopw [5] (fun x wr => ∃ k : Nat, k ≤ m ∧ x = .int .i64 k ∧ Below (w.heap.size + 2) ((w.alloc (.cells #[.int .i64 id, .int .i64 run, .int .i64 tm, .int .i64 st, .int .i64 dn, .string raw, .int .i64 flt, .slice A m cp] 28)).alloc (.cells #[.int .i64 id, .int .i64 run, .int .i64 tm, .int .i64 st, .int .i64 dn, .string raw, .int .i64 flt, .slice Ab m cpb] 28)) wr) (fun x _ => m - (intOf x).toNat)
  case atStart => exact ⟨0, by omega, rfl, Below.refl _ _⟩
  case round =>
    obtain ⟨k, hk, rfl, hbel⟩ := hrel
    have HB := Lib.hid hbel
    have BW := Lib.hid (BB.out.trans (hbel.mono (by omega)))
    have c0 := fun i => (K0.out.below hbel (by omega)).cell i
    have c1 := fun i => (K1.out.below hbel (by omega)).cell i
    clear hbel
    by_cases hlt : k < m
    · have v1 : decide ((k : Int) < (m : Int)) = true := by simp; omega
      obtain ⟨ad, x, rfl, hxb, hxk, x0, x1, x2, x3, x4, x5⟩ := (HA.out.below (BW.out.mono hB)).in_ hlt
      obtain ⟨ad2, y, rfl, hyb, hyk, y0, y1, y2, y3, y4, y5⟩ := (HBB.out.below (BW.out.mono hB)).in_ hlt
      obtain rfl : y = x := Option.some.inj (hyk.symm.trans hxk)
      have nq := fun W => neq_leg y W
      clear hxk hyk hxb hyb
      go_wp2_with fail
      go_quiet (fail)
      go_wp2
      go_roundw
      case rel => exact ⟨k + 1, by omega, by go_num, below_drewN HB.out _⟩
      case measure => simp [intOf]; omega
    · have v1 : decide ((k : Int) < (m : Int)) = false := by simp; omega
      go_wp2
      go_ret
      exact ⟨rfl, BW.out⟩
set_option maxRecDepth 100000 in
set_option maxHeartbeats 4000000 in
theorem stays_any (id run tm st dn flt : Int) (raw : ByteArray) (g m cp : Nat) (ls : List P.Leg) (Ab : Option Addr) (cpb : Nat) (B : Nat) (w : World)
    (ha : LegsAt w B (some ⟨g, 0, none⟩) m ls) (hmark : w.cell? ⟨g, m * 6, none⟩ = some (.string ⟨#[109, 97, 114, 107]⟩)) (hg : g < w.heap.size) (hcp : m + 1 ≤ cp) (hcm : cp ≤ maxLen) (hb : LegsAt w B Ab m ls) (hB : B ≤ w.heap.size) :
    Calls Tryz.prog 23 #[.agg #[.int .i64 id, .int .i64 run, .int .i64 tm, .int .i64 st, .int .i64 dn, .string raw, .int .i64 flt, .slice (some ⟨g, 0, none⟩) m cp], .agg #[.int .i64 id, .int .i64 run, .int .i64 tm, .int .i64 st, .int .i64 dn, .string raw, .int .i64 flt, .slice Ab m cpb]] w fun e w' => e = .returned (.bool true) ∧ Below w.heap.size w w' := by
  have hcm' := hcm
  unfold maxLen at hcm'
  have hbel := ((Below.refl w.heap.size w).alloc (Nat.le_refl _) (.cells #[.int .i64 id, .int .i64 run, .int .i64 tm, .int .i64 st, .int .i64 dn, .string raw, .int .i64 flt, .slice (some ⟨g, 0, none⟩) m cp] 28)).alloc (by simp) (.cells #[.int .i64 id, .int .i64 run, .int .i64 tm, .int .i64 st, .int .i64 dn, .string raw, .int .i64 flt, .slice Ab m cpb] 28)
  have k0 := (Blk.new w 28 #[.int .i64 id, .int .i64 run, .int .i64 tm, .int .i64 st, .int .i64 dn, .string raw, .int .i64 flt, .slice (some ⟨g, 0, none⟩) m cp]).alloc (.cells #[.int .i64 id, .int .i64 run, .int .i64 tm, .int .i64 st, .int .i64 dn, .string raw, .int .i64 flt, .slice Ab m cpb] 28)
  have k1 := Blk.new (w.alloc (.cells #[.int .i64 id, .int .i64 run, .int .i64 tm, .int .i64 st, .int .i64 dn, .string raw, .int .i64 flt, .slice (some ⟨g, 0, none⟩) m cp] 28)) 28 #[.int .i64 id, .int .i64 run, .int .i64 tm, .int .i64 st, .int .i64 dn, .string raw, .int .i64 flt, .slice Ab m cpb]
  rw [show (w.alloc (.cells #[.int .i64 id, .int .i64 run, .int .i64 tm, .int .i64 st, .int .i64 dn, .string raw, .int .i64 flt, .slice (some ⟨g, 0, none⟩) m cp] 28)).heap.size = w.heap.size + 1 from by simp] at k1
  have hmk := (hbel.cell (p := ⟨g, m * 6, none⟩) hg).trans hmark
  have ha2 := (ha.below (hbel.mono hB)).more (Nat.le_trans hB hbel.size)
  have hb2 := (hb.below (hbel.mono hB)).more (Nat.le_trans hB hbel.size)
  have hg2 := Nat.lt_of_lt_of_le hg hbel.size
  obtain ⟨w2, hw2⟩ : ∃ w2, w2 = ((w.alloc (.cells #[.int .i64 id, .int .i64 run, .int .i64 tm, .int .i64 st, .int .i64 dn, .string raw, .int .i64 flt, .slice (some ⟨g, 0, none⟩) m cp] 28)).alloc (.cells #[.int .i64 id, .int .i64 run, .int .i64 tm, .int .i64 st, .int .i64 dn, .string raw, .int .i64 flt, .slice Ab m cpb] 28)) := ⟨_, rfl⟩
  rw [← hw2] at hbel k0 k1 hmk ha2 hb2 hg2
  have SR : ∀ x : Ext w2, Calls Tryz.prog 18 #[.agg #[.int .i64 id, .int .i64 run, .int .i64 tm, .int .i64 st, .int .i64 dn, .string raw, .int .i64 flt, .slice (some ⟨g, 0, none⟩) m cp], .agg #[.int .i64 id, .int .i64 run, .int .i64 tm, .int .i64 st, .int .i64 dn, .string raw, .int .i64 flt, .slice Ab m cpb]] x.wd fun e w' => e = .returned (.bool true) ∧ Below x.wd.heap.size x.wd w' := fun x =>
    sameRow_any id run tm st dn flt raw (some ⟨g, 0, none⟩) m cp ls Ab cpb x.wd.heap.size x.wd ((ha2.below x.hb).more x.hb.size) ((hb2.below x.hb).more x.hb.size) (Nat.le_refl _) (by omega)
  have cellA : ∀ x : Ext w2, ∀ i, x.wd.cell? ⟨w.heap.size, i, none⟩ = (#[.int .i64 id, .int .i64 run, .int .i64 tm, .int .i64 st, .int .i64 dn, .string raw, .int .i64 flt, .slice (some ⟨g, 0, none⟩) m cp] : Array Value)[i]? := fun x i => by rw [x.cell k0.lt, k0.cell]
  have cellB : ∀ x : Ext w2, ∀ i, x.wd.cell? ⟨w.heap.size + 1, i, none⟩ = (#[.int .i64 id, .int .i64 run, .int .i64 tm, .int .i64 st, .int .i64 dn, .string raw, .int .i64 flt, .slice Ab m cpb] : Array Value)[i]? := fun x i => by rw [x.cell k1.lt, k1.cell]
  have cellM : ∀ x : Ext w2, x.wd.cell? ⟨g, m * 6, none⟩ = some (.string ⟨#[109, 97, 114, 107]⟩) := fun x => by rw [x.cell hg2, hmk]
  have SR := Lib.hid SR
  have BB := Lib.hid hbel
  have HW := Lib.hid hw2
  clear ha hb hmark hbel k0 k1 ha2 hb2 hmk hw2
  go_enter Tryz.func23, Tryz.ntmps23
  go_wp2_with fail
  rw [← HW.out]
  refine wp_region_ext (by kernel_rfl) (by kernel_rfl) ?_
  repeat (first | go_big_quiet_step ((go_at_call 18; exact Ext.calls _ (SR.out _))) | quiet_step ((go_at_call 18; exact Ext.calls _ (SR.out _))))
  refine wpQuiet_nil ?_
  intro w3 hb3
  have B3 := Lib.hid (BB.out.trans (hb3.mono BB.out.size))
  clear hb3 cellA cellB cellM
  go_wp2
  go_ret
  exact ⟨rfl, B3.out⟩
end Go.Proofs.YtemjipongehjlaaGreat
/- A region that draws its order: one walk in the order of the text, over an invariant that knows which operations have run, what they yielded, and the world. Plain; no conditions. -/
namespace Go.Proofs.YtemjipongehjlaaGreat
set_option linter.unusedVariables false
open Go Go.RowKit
def upd (L : Nat → Bool) (i : Nat) : Nat → Bool := fun j => if j = i then true else L j
def updv (vs : Nat → Value) (i : Nat) (v : Value) : Nat → Value := fun j => if j = i then v else vs j
/-- All that operation k waits for has run. -/
def Rdy (ops : Array Oper) (k : Nat) (L : Nat → Bool) : Prop := ∀ j, Region.waitsFor .any ops k j = true → L j = true
/-- The operations in F yield what the walk cannot tell ahead. -/
def BB (F : List Nat) : Nat → Option (Value → World → Prop) := fun k => if F.contains k = true then some (fun _ _ => True) else none
section
variable (P : Program) (ops : Array Oper) (I : (Nat → Bool) → (Nat → Value) → World → Prop) (F : List Nat)
def wpGen (n : Nat) (Q : Act → World → Prop) : List Oper → Nat → ((Nat → Value) → Act) → Prop
  | [], _, A => ∀ vs w, I (fun j => decide (j < n)) vs w → Q (A vs) w
  | o :: rest, k, A => if F.contains k = true
    then (∀ L vs w, I L vs w → Rdy ops k L → L k = false → ∀ K : Value → World → Prop, (∀ v w', I (upd L k) (updv vs k v) w' → K v w') → stepF P ops o (A vs) w K) ∧ wpGen n Q rest (k + 1) (fun vs => (A vs).put o.dst (vs k))
    else ∃ v, (∀ L vs w, I L vs w → Rdy ops k L → L k = false → ∀ K : Value → World → Prop, (∀ w', I (upd L k) (updv vs k v) w' → K v w') → stepF P ops o (A vs) w K) ∧ wpGen n Q rest (k + 1) (fun vs => (A vs).put o.dst v)
end
section
variable {P : Program} {ops : Array Oper} {I : (Nat → Bool) → (Nat → Value) → World → Prop} {F : List Nat} {n : Nat}
theorem BB_some {k : Nat} (h : F.contains k = true) : BB F k = some (fun _ _ => True) := by unfold BB; rw [if_pos h]
theorem BB_none {k : Nat} (h : F.contains k = false) : BB F k = none := by unfold BB; rw [if_neg (by rw [h]; simp)]
structure StepsG (P : Program) (ops : Array Oper) (I : (Nat → Bool) → (Nat → Value) → World → Prop) (F : List Nat) (n : Nat) (Q : Act → World → Prop) (a : Act) (c : Nat → Value) (k : Nat) : Prop where
  step : ∀ i o, k ≤ i → i < n → ops[i]? = some o → ∀ L vs w, I L vs w → Rdy ops i L → L i = false → stepF P ops o (textF ops (BB F) a c vs i) w fun v w' => I (upd L i) (updv vs i v) w' ∧ (F.contains i = false → v = c i)
  last : ∀ vs w, I (fun j => decide (j < n)) vs w → Q (textF ops (BB F) a c vs n) w
theorem steps_gen {Q : Act → World → Prop} {a : Act} : ∀ (l : List Oper) (k : Nat) (A : (Nat → Value) → Act) (c : Nat → Value), (∀ j, j < l.length → l[j]? = ops[k + j]?) → k + l.length = n → (∀ vs, A vs = textF ops (BB F) a c vs k) →
    wpGen P ops I F n Q l k A → ∃ c', (∀ j, j < k → c' j = c j) ∧ StepsG P ops I F n Q a c' k
  | [], k, A, c, _, hk, hA, h => ⟨c, fun _ _ => rfl, fun i o h1 h2 => by simp at hk; omega, fun vs w hi => by
      have : k = n := by simpa using hk
      subst this
      rw [← hA]
      exact h vs w hi⟩
  | o :: l, k, A, c, hl, hk, hA, h => by
    have h0 : ops[k]? = some o := by simpa using (hl 0 (by simp)).symm
    have hl' : ∀ j, j < l.length → l[j]? = ops[k + 1 + j]? := fun j hj => by have := hl (j + 1) (by simp; omega); simpa [Nat.add_assoc, Nat.add_comm 1 j] using this
    have hk' : k + 1 + l.length = n := by simp at hk; omega
    unfold wpGen at h
    cases hF : F.contains k with
    | false =>
      simp only [hF, Bool.false_eq_true, if_false] at h
      obtain ⟨v, h1, h2⟩ := h
      let c1 : Nat → Value := fun j => if j = k then v else c j
      have hA1 : ∀ vs, (A vs).put o.dst v = textF ops (BB F) a c1 vs (k + 1) := fun vs => by
        unfold textF
        rw [hA, textF_congr (c := c1) (c' := c) k (fun j hj => by simp [c1]; omega)]
        simp [h0, valF, BB_none hF, c1]
      obtain ⟨c2, hc2, hs⟩ := steps_gen l (k + 1) _ c1 hl' hk' hA1 h2
      refine ⟨c2, fun j hj => by rw [hc2 j (by omega)]; simp [c1]; omega, fun i oi hi hin hoi L vs w hI hR hL => ?_, hs.last⟩
      by_cases hik : i = k
      · subst hik
        have : oi = o := Option.some.inj (hoi.symm.trans h0)
        subst this
        rw [textF_congr (c := c2) (c' := c) i (fun j hj => by rw [hc2 j (by omega)]; simp [c1]; omega), ← hA]
        exact h1 L vs w hI hR hL _ fun w' hw => ⟨hw, fun _ => by rw [hc2 i (by omega)]; simp [c1]⟩
      · exact hs.step i oi (by omega) hin hoi L vs w hI hR hL
    | true =>
      simp only [hF, if_true] at h
      obtain ⟨h1, h2⟩ := h
      have hA1 : ∀ vs, (A vs).put o.dst (vs k) = textF ops (BB F) a c vs (k + 1) := fun vs => by
        unfold textF
        rw [hA]
        simp [h0, valF, BB_some hF]
      obtain ⟨c2, hc2, hs⟩ := steps_gen l (k + 1) _ c hl' hk' hA1 h2
      refine ⟨c2, fun j hj => hc2 j (by omega), fun i oi hi hin hoi L vs w hI hR hL => ?_, hs.last⟩
      by_cases hik : i = k
      · subst hik
        have : oi = o := Option.some.inj (hoi.symm.trans h0)
        subst this
        rw [textF_congr (c := c2) (c' := c) i (fun j hj => hc2 j (by omega)), ← hA]
        exact h1 L vs w hI hR hL _ fun v w' hw => ⟨hw, fun hn => by rw [hF] at hn; cases hn⟩
      · exact hs.step i oi (by omega) hin hoi L vs w hI hR hL
theorem any_gen {a : Act} {c : Nat → Value} {w0 : World} {Q : Act → World → Prop} {Q' : Exit → Act → World → Prop} (hf : Free ops [] n)
    (hs : StepsG P ops I F n Q a c 0) (hQ : ∀ a w, Q a w → wpList P ops Q' (ops.toList.drop n) a w) :
    ∀ (u : Nat) (vs : Nat → Value) (listed : Array Bool) (a' : Act) (w' : World), leftF n listed = u → InvF ops (fun _ _ => True) (BB F) w0 n a c vs listed a' w' → I (fun j => listed.getD j false) vs w' → wpAny P .any ops Q' (u + (ops.size - n)) listed a' w'
  | 0, vs, listed, a', w', hu, inv, hI => by
    have hall : ∀ j, j < n → listed.getD j true = true := fun j hj => by
      have := List.countP_eq_zero.1 hu j (List.mem_range.2 hj)
      simpa using this
    have hall2 : ∀ j, j < n → listed.getD j false = true := fun j hj => by
      have h1 := hall j hj
      have h2 : j < listed.size := by rw [inv.head.size]; have := hf.le; omega
      simpa [h2] using h1
    have e1 : listed = Array.ofFn fun i : Fin ops.size => decide (i.val < n) := by
      apply Array.ext (by simp [inv.head.size])
      intro j h1 h2
      have hj : j < ops.size := by rw [← inv.head.size]; exact h1
      simp only [Array.getElem_ofFn]
      by_cases hjn : j < n
      · have := hall j hjn
        simpa [h1, hjn] using this
      · have := inv.head.tail j (by omega) hj
        simpa [h1, hjn] using this
    have e2 : a' = textF ops (BB F) a c vs n := by
      have hd := (textF_size (ops := ops) (B := BB F) (a := a) (c := c) (vs := vs) n).2
      have hz := (textF_size (ops := ops) (B := BB F) (a := a) (c := c) (vs := vs) n).1
      have ht : a'.tmps = (textF ops (BB F) a c vs n).tmps := by
        apply Array.ext_getElem?
        intro d
        by_cases hw : ∃ j o, j < n ∧ ops[j]? = some o ∧ o.dst = some d
        · obtain ⟨j, oj, hj, hoj, hdj⟩ := hw
          rcases Nat.lt_or_ge d a.tmps.size with hs | hs
          · rw [inv.slot j oj d hj hoj (hall2 j hj) hdj hs, textF_slot hf hoj hdj hs n hj (Nat.le_refl _)]
          · rw [Array.getElem?_eq_none (by rw [inv.size]; exact hs), Array.getElem?_eq_none (by rw [hz]; exact hs)]
        · rw [inv.other d fun j oj hj hoj _ hdj => hw ⟨j, oj, hj, hoj, hdj⟩, textF_other n fun j oj hj hoj hdj => hw ⟨j, oj, hj, hoj, hdj⟩]
      have hdd := inv.defers.trans hd.symm
      cases a'
      cases hx : textF ops (BB F) a c vs n
      rw [hx] at ht hdd
      simp only at ht hdd
      rw [ht, hdd]
    subst e2
    have hLe : (fun j => listed.getD j false) = fun j => decide (j < n) := by
      funext j
      rcases Nat.lt_or_ge j n with hj | hj
      · rw [hall2 j hj]; simp [hj]
      · rcases Nat.lt_or_ge j listed.size with h1 | h1
        · have := inv.head.tail j hj (by rw [← inv.head.size]; exact h1)
          rw [getD_both this]
          simp; omega
        · simp [Array.getD_eq_getD_getElem?, Array.getElem?_eq_none h1]
          omega
    rw [hLe] at hI
    have hq := hQ _ _ (hs.last vs w' hI)
    have hlen : (ops.toList.drop n).length = ops.size - n := by simp
    have := wpAny_of_seq (md := .any) (Q' := Q') (ops.toList.drop n) n listed _ w' (fun j => by simp [List.getElem?_drop]) (by rw [hlen, e1]; exact hf.seq) hq
    rw [hlen] at this
    simpa using this
  | u + 1, vs, listed, a', w', hu, inv, hI => by
    rw [show u + 1 + (ops.size - n) = (u + (ops.size - n)) + 1 by omega]
    have hex : ∃ j, j < n ∧ listed.getD j true = false := by
      have : 0 < (List.range n).countP fun j => !listed.getD j true := by unfold leftF at hu; omega
      obtain ⟨j, hj, hp⟩ := List.countP_pos_iff.1 this
      exact ⟨j, List.mem_range.1 hj, by simpa using hp⟩
    have hsmall : ∀ d j, j ≤ d → j < n → listed.getD j true = false → ∃ i, i < n ∧ i ∈ Region.ready .any ops listed := by
      intro d
      induction d with
      | zero =>
        intro j hjd hj hun
        have hj0 : j = 0 := by omega
        subst hj0
        obtain ⟨oj, hoj⟩ : ∃ oj, ops[0]? = some oj := ⟨_, Array.getElem?_eq_getElem (by have := hf.le; omega)⟩
        exact ⟨0, hj, mem_ready.2 ⟨hun, oj, hoj, fun e he hb => by have := hf.after 0 oj hoj e he hb; omega⟩⟩
      | succ d ih =>
        intro j hjd hj hun
        obtain ⟨oj, hoj⟩ : ∃ oj, ops[j]? = some oj := ⟨_, Array.getElem?_eq_getElem (by have := hf.le; omega)⟩
        by_cases hall : ∀ e ∈ oj.after, Region.binds .any e = true → listed.getD e.on false = true
        · exact ⟨j, hj, mem_ready.2 ⟨hun, oj, hoj, hall⟩⟩
        · simp only [Classical.not_forall] at hall
          obtain ⟨e, he, hb, hno⟩ := hall
          have hlt := hf.after j oj hoj e he hb
          exact ih e.on (by omega) (by omega) (getD_in (by rw [inv.head.size]; have := hf.le; omega) (by simpa using hno))
    obtain ⟨j0, hj0, hun0⟩ := hex
    have hset : ∀ i, i < n → listed.getD i true = false → leftF n (listed.setIfInBounds i true) = u := fun i hin hun => by
      have hisl : i < listed.size := by rw [inv.head.size]; have := hf.le; omega
      have hc := cnt_set (fun j => !listed.getD j true) (fun j => !(listed.setIfInBounds i true).getD j true) i (fun j hj => by simp only [getD_set_ne true (Ne.symm hj)]) (by simp [hisl]) (by simp only [hun]; rfl) n hin
      unfold leftF at hu ⊢
      omega
    refine ⟨fun h0 => ?_, fun i hr => ?_⟩
    · obtain ⟨i, _, hi⟩ := hsmall j0 j0 (Nat.le_refl _) hj0 hun0
      rw [h0] at hi
      cases hi
    · obtain ⟨hun, o, ho, hall⟩ := mem_ready.1 hr
      have hisz : i < ops.size := (Array.getElem?_eq_some_iff.1 ho).1
      have hin : i < n := by
        rcases Nat.lt_or_ge i n with h | h
        · exact h
        · exfalso
          obtain ⟨hw1, hw2⟩ := hf.waits (by omega)
          have hin2 : i = n := by
            rcases Nat.lt_or_ge n i with h2 | h2
            · exfalso
              have h3 := List.all_eq_true.1 hw2 i (List.mem_range.2 hisz)
              simp only [Bool.or_eq_true, decide_eq_true_eq] at h3
              rcases h3 with h3 | h3
              · omega
              · obtain ⟨o', ho', e, he, hb, hon⟩ := Region.waitsFor_spec h3
                have : o' = o := Option.some.inj (ho'.symm.trans ho)
                subst this
                have h4 := hall e he hb
                rw [hon, getD_both (inv.head.tail (i - 1) (by omega) (by omega))] at h4
                cases h4
            · omega
          subst hin2
          obtain ⟨j, hj, hjr⟩ := hsmall j0 j0 (Nat.le_refl _) hj0 hun0
          have hjl : ([] : List Nat).contains j = true := by
            cases hc : ([] : List Nat).contains j with
            | true => rfl
            | false =>
              rcases needs_listed inv.head.closed (fun j' hw => by
                obtain ⟨o', ho', e, he, hb, hon⟩ := Region.waitsFor_spec hw
                have : o' = o := Option.some.inj (ho'.symm.trans ho)
                subst this
                rw [← hon]
                exact hall e he hb) _ j (hw1 j hj hc) with h4 | h4
              · omega
              · rw [getD_both (mem_ready.1 hjr).1] at h4
                cases h4
          simp at hjl
      have hkn : Rdy ops i (fun j => listed.getD j false) := fun j hwt => by
        obtain ⟨oi, hoi, e, he, hb, hon⟩ := Region.waitsFor_spec hwt
        have : oi = o := Option.some.inj (hoi.symm.trans ho)
        subst this
        have h1 := hall e he hb
        rw [hon] at h1
        exact h1
      have hstep := hs.step i o (Nat.zero_le _) hin ho _ vs w' hI hkn (getD_both hun)
      refine wpOp_mono (fun a2 w2 h2 => ?_) (op_of_step hf inv hin ho hr hstep)
      obtain ⟨v, rfl, hI2, hv⟩ := h2
      refine any_gen hf hs hQ u (fun j => if j = i then v else vs j) _ _ w2 (hset i hin hun) (inv_set hf inv hin ho hr trivial (fun j φ v hφ hp => by
        unfold BB at hφ
        split at hφ
        · cases hφ; trivial
        · cases hφ) (fun φ hφ => by
        unfold BB at hφ
        split at hφ
        · cases hφ; trivial
        · cases hφ) (fun hB => hv (by
        cases hc : F.contains i with
        | false => rfl
        | true => rw [BB_some hc] at hB; cases hB))) ?_
      have e1 : (fun j => (listed.setIfInBounds i true).getD j false) = upd (fun j => listed.getD j false) i := by
        funext j
        unfold upd
        by_cases hji : j = i
        · subst hji
          have hsz : j < listed.size := by rw [inv.head.size]; exact (Array.getElem?_eq_some_iff.1 ho).1
          simp [hsz]
        · rw [if_neg hji, getD_set_ne false (Ne.symm hji)]
      rw [e1]
      exact hI2
/-- The region, walked in the order of the text; the operations from n on in their forced order. -/
theorem wp_region_gen {id : Nat} {Q : Exit → Act → World → Prop} {a : Act} {w : World} {l : List Oper} (n : Nat) (F : List Nat) (I : (Nat → Bool) → (Nat → Value) → World → Prop) (hm : P.follows .mixedOrders = true) (hB : freeB l.toArray [] n = true)
    (h0 : I (fun _ => false) (fun _ => undef) { w with drawn := w.drawn + 1 })
    (h : wpGen P l.toArray I F n (fun a w => ∀ KK : Exit → Act → World → Prop, (∀ a w, Q .normal a w → KK .normal a w) → wpList P l.toArray KK (l.drop n) a w) (l.take n) 0 (fun _ => a)) : (Code.region id l.toArray true).wp P Q a w := by
  have hf := free_of hB
  have hln : n ≤ l.length := by simpa using hf.le
  obtain ⟨c, _, hs⟩ := steps_gen (ops := l.toArray) (n := n) (a := a) (l.take n) 0 (fun _ => a) (fun _ => undef) (fun j hj => by simp at hj; simp [hj]) (by simp; omega) (fun vs => rfl) h
  refine Code.wp_mono (Q := fun e a w => e = .normal ∧ Q e a w) (fun e a w h => h.2) ?_
  refine wp_region_any hm ?_
  have hu : leftF n (Array.replicate l.toArray.size false) = n := by
    unfold leftF
    have : ∀ j ∈ List.range n, (!(Array.replicate l.toArray.size false).getD j true) = true := fun j hj => by
      have := List.mem_range.1 hj
      simp [show j < l.length by omega]
    rw [List.countP_eq_length.2 this]
    simp
  have := any_gen (F := F) (I := I) (w0 := w) (c := c) (Q' := fun e a w => e = .normal ∧ Q e a w) hf hs (fun a w hq => by simpa using hq _ fun a w h => ⟨rfl, h⟩) n (fun _ => undef) (Array.replicate l.toArray.size false) a { w with drawn := w.drawn + 1 } hu
    ⟨⟨by simp, fun j oj _ hl => (by rw [getD_replicate_false] at hl; cases hl), fun t _ ht => getD_in (by simpa using ht) (getD_replicate_false _ _)⟩, trivial, fun j φ _ _ hl => (by rw [getD_replicate_false] at hl; cases hl), rfl, rfl, fun _ _ => rfl, fun j o d _ _ hl => (by rw [getD_replicate_false] at hl; cases hl)⟩ (by
    have e : (fun j => (Array.replicate l.toArray.size false).getD j false) = fun _ => false := by
      funext j
      exact getD_replicate_false _ _
    rw [e]
    exact h0)
  rwa [show n + (l.toArray.size - n) = l.toArray.size by simp; omega] at this
theorem wpGen_nil {Q : Act → World → Prop} {k : Nat} {A : (Nat → Value) → Act} (h : ∀ vs w, I (fun j => decide (j < n)) vs w → Q (A vs) w) : wpGen P ops I F n Q [] k A := h
theorem wpGen_pure {Q : Act → World → Prop} {o : Oper} {rest : List Oper} {k : Nat} {A : (Nat → Value) → Act} {v : Value} (hF : F.contains k = false)
    (h1 : ∀ L vs w, I L vs w → Rdy ops k L → L k = false → ∀ K : Value → World → Prop, (∀ w', I (upd L k) (updv vs k v) w' → K v w') → stepF P ops o (A vs) w K)
    (h2 : ∀ KK : ((Nat → Value) → Act) → Prop, (∀ A', wpGen P ops I F n Q rest (k + 1) A' → KK A') → KK (fun vs => (A vs).put o.dst v)) : wpGen P ops I F n Q (o :: rest) k A := by
  unfold wpGen
  rw [if_neg (by rw [hF]; simp)]
  exact ⟨v, h1, h2 _ fun _ h => h⟩
theorem wpGen_fact {Q : Act → World → Prop} {o : Oper} {rest : List Oper} {k : Nat} {A : (Nat → Value) → Act} (hF : F.contains k = true)
    (h1 : ∀ L vs w, I L vs w → Rdy ops k L → L k = false → ∀ K : Value → World → Prop, (∀ v w', I (upd L k) (updv vs k v) w' → K v w') → stepF P ops o (A vs) w K)
    (h2 : ∀ KK : ((Nat → Value) → Act) → Prop, (∀ A', wpGen P ops I F n Q rest (k + 1) A' → KK A') → KK (fun vs => (A vs).put o.dst (vs k))) : wpGen P ops I F n Q (o :: rest) k A := by
  unfold wpGen
  rw [if_pos hF]
  exact ⟨h1, h2 _ fun _ h => h⟩
end
end Go.Proofs.YtemjipongehjlaaGreat
/- Two blocks that a region makes, each written later on. Plain lemmas. -/
namespace Go.Proofs.YtemjipongehjlaaGreat
set_option linter.unusedVariables false
open Go Go.RowKit
/-- Operation a and b make blocks of type t, whose cells are z; sa and sb write x and y into them. -/
structure TwoI (W0 : World) (t : TypeId) (z x y : Array Value) (a b sa sb : Nat) (L : Nat → Bool) (vs : Nat → Value) (w : World) : Prop where
  below : Below W0.heap.size W0 w
  first : L a = true → ∃ g, vs a = .pointer (some ⟨g, 0, none⟩) ∧ W0.heap.size ≤ g ∧ Blk w g t (if L sa = true then x else z)
  second : L b = true → ∃ g, vs b = .pointer (some ⟨g, 0, none⟩) ∧ W0.heap.size ≤ g ∧ Blk w g t (if L sb = true then y else z)
  apart : L a = true → L b = true → vs a ≠ vs b
  wa : L sa = true → L a = true
  wb : L sb = true → L b = true
section
variable {W0 w w' : World} {t : TypeId} {z x y : Array Value} {a b sa sb : Nat} {L : Nat → Bool} {vs : Nat → Value}
theorem TwoI.start (W0 : World) : TwoI W0 t z x y a b sa sb (fun _ => false) vs { W0 with drawn := W0.drawn + 1 } :=
  ⟨⟨rfl, rfl, rfl, Nat.le_refl _, fun _ _ => rfl⟩, (fun h => by cases h), (fun h => by cases h), (fun h => by cases h), (fun h => by cases h), (fun h => by cases h)⟩
theorem TwoI.pure (h : TwoI W0 t z x y a b sa sb L vs w) {k : Nat} {v : Value} (h1 : k ≠ a) (h2 : k ≠ b) (h3 : k ≠ sa) (h4 : k ≠ sb) : TwoI W0 t z x y a b sa sb (upd L k) (updv vs k v) w := by
  have ea : upd L k a = L a := by simp [upd, Ne.symm h1]
  have eb : upd L k b = L b := by simp [upd, Ne.symm h2]
  have ec : upd L k sa = L sa := by simp [upd, Ne.symm h3]
  have ed : upd L k sb = L sb := by simp [upd, Ne.symm h4]
  have va : updv vs k v a = vs a := by simp [updv, Ne.symm h1]
  have vb : updv vs k v b = vs b := by simp [updv, Ne.symm h2]
  refine ⟨h.below, ?_, ?_, ?_, ?_, ?_⟩
  · rw [ea, va, ec]; exact h.first
  · rw [eb, vb, ed]; exact h.second
  · rw [ea, eb, va, vb]; exact h.apart
  · rw [ec, ea]; exact h.wa
  · rw [ed, eb]; exact h.wb
theorem TwoI.makeA (h : TwoI W0 t z x y a b sa sb L vs w) (hL : L a = false) (hab : a ≠ b) (hsa : sa ≠ a) (hsb : sb ≠ a) : TwoI W0 t z x y a b sa sb (upd L a) (updv vs a (.pointer (some ⟨w.heap.size, 0, none⟩))) (w.alloc (.cells z t)) := by
  have h1 : L sa = false := by
    cases hc : L sa with
    | false => rfl
    | true => rw [h.wa hc] at hL; cases hL
  refine ⟨h.below.alloc h.below.size _, fun _ => ⟨w.heap.size, by simp [updv], h.below.size, ?_⟩, fun hb => ?_, fun _ hb => ?_, fun _ => by simp [upd], fun hb => ?_⟩
  · have : upd L a sa = false := by simp [upd, hsa, h1]
    rw [this]
    exact Blk.new w t z
  · have hb' : L b = true := by simpa [upd, Ne.symm hab] using hb
    obtain ⟨g, e1, e2, e3⟩ := h.second hb'
    refine ⟨g, by simp [updv, Ne.symm hab, e1], e2, ?_⟩
    have : upd L a sb = L sb := by simp [upd, hsb]
    rw [this]
    exact e3.alloc _
  · have hb' : L b = true := by simpa [upd, Ne.symm hab] using hb
    obtain ⟨g, e1, e2, e3⟩ := h.second hb'
    have hlt := e3.lt
    simp only [updv, if_true, Ne.symm hab, if_false, e1]
    intro e
    cases e
    omega
  · have hb' : L sb = true := by simpa [upd, hsb] using hb
    have := h.wb hb'
    simp [upd, Ne.symm hab, this]
theorem TwoI.swap (h : TwoI W0 t z x y a b sa sb L vs w) : TwoI W0 t z y x b a sb sa L vs w := ⟨h.below, h.second, h.first, fun h1 h2 e => h.apart h2 h1 e.symm, h.wb, h.wa⟩
theorem TwoI.makeB (h : TwoI W0 t z x y a b sa sb L vs w) (hL : L b = false) (hab : a ≠ b) (hsa : sa ≠ b) (hsb : sb ≠ b) : TwoI W0 t z x y a b sa sb (upd L b) (updv vs b (.pointer (some ⟨w.heap.size, 0, none⟩))) (w.alloc (.cells z t)) :=
  (h.swap.makeA hL (Ne.symm hab) hsb hsa).swap
theorem TwoI.putA (h : TwoI W0 t z x y a b sa sb L vs w) (hL : L a = true) {g : Nat} (hg : vs a = .pointer (some ⟨g, 0, none⟩)) (hb : Blk w' g t x) (hgr : w.grownBy w' (some g)) (hge : W0.heap.size ≤ g) (v : Value) (hsa : sa ≠ a) (hsb : sa ≠ b) (hss : sa ≠ sb) :
    TwoI W0 t z x y a b sa sb (upd L sa) (updv vs sa v) w' := by
  have ea : upd L sa a = L a := by simp [upd, Ne.symm hsa]
  have eb : upd L sa b = L b := by simp [upd, Ne.symm hsb]
  have es : upd L sa sb = L sb := by simp [upd, Ne.symm hss]
  have va : updv vs sa v a = vs a := by simp [updv, Ne.symm hsa]
  have vb : updv vs sa v b = vs b := by simp [updv, Ne.symm hsb]
  refine ⟨h.below.grown hgr h.below.size (fun k hk => by cases hk; exact hge), fun _ => ⟨g, by rw [va, hg], hge, ?_⟩, fun h2 => ?_, fun _ h2 => ?_, fun _ => by rw [ea, hL], fun h2 => ?_⟩
  · have : upd L sa sa = true := by simp [upd]
    rw [if_pos this]
    exact hb
  · rw [eb] at h2
    obtain ⟨g', e1, e2, e3⟩ := h.second h2
    refine ⟨g', by rw [vb, e1], e2, ?_⟩
    rw [es]
    refine e3.grownAt hgr (fun e => h.apart hL h2 ?_)
    rw [hg, e1, e]
  · rw [eb] at h2
    rw [va, vb]
    exact h.apart hL h2
  · rw [es] at h2
    rw [eb]
    exact h.wb h2
theorem TwoI.putB (h : TwoI W0 t z x y a b sa sb L vs w) (hL : L b = true) {g : Nat} (hg : vs b = .pointer (some ⟨g, 0, none⟩)) (hb : Blk w' g t y) (hgr : w.grownBy w' (some g)) (hge : W0.heap.size ≤ g) (v : Value) (hsb : sb ≠ b) (hsa : sb ≠ a) (hss : sb ≠ sa) :
    TwoI W0 t z x y a b sa sb (upd L sb) (updv vs sb v) w' := (h.swap.putA hL hg hb hgr hge v hsb hsa hss).swap
end
theorem Blk.put6 {w : World} {g0 : Nat} {t : TypeId} {a b c d e f a' b' c' d' e' f' : Value} (hk : Blk w g0 t #[a', b', c', d', e', f']) :
    Blk ((((((w.setCell ⟨g0, 0, none⟩ a).setCell ⟨g0, 1, none⟩ b).setCell ⟨g0, 2, none⟩ c).setCell ⟨g0, 3, none⟩ d).setCell ⟨g0, 4, none⟩ e).setCell ⟨g0, 5, none⟩ f) g0 t #[a, b, c, d, e, f] := by
  have := (((((hk.set_ 0 a).set_ 1 b).set_ 2 c).set_ 3 d).set_ 4 e).set_ 5 f
  simpa [World.setCells] using this
theorem grown_put6 (w : World) (g0 : Nat) (a b c d e f : Value) : w.grownBy ((((((w.setCell ⟨g0, 0, none⟩ a).setCell ⟨g0, 1, none⟩ b).setCell ⟨g0, 2, none⟩ c).setCell ⟨g0, 3, none⟩ d).setCell ⟨g0, 4, none⟩ e).setCell ⟨g0, 5, none⟩ f) (some g0) :=
  (((((grown_set w g0 0 a).trans (grown_set _ g0 1 b)).trans (grown_set _ g0 2 c)).trans (grown_set _ g0 3 d)).trans (grown_set _ g0 4 e)).trans (grown_set _ g0 5 f)
end Go.Proofs.YtemjipongehjlaaGreat
