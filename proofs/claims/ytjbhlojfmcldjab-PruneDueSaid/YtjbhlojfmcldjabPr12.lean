/- What prune.Forward returns: whether a row may stand where another one stood. -/
import Derived.Test.YtjbhlojfmcldjabPr11
namespace Go.Proofs.Ytjbhlojfmcldjab
set_option linter.unusedVariables false
open Go.RowKit Go.BigFrame
namespace P
theorem forward_key (a b : Head) (la lb : List Leg) :
    ((a.id == b.id) = false ∧ forward a b la lb = false) ∨
    ((a.id == b.id) = true ∧ (a.run == b.run) = false ∧ forward a b la lb = false) ∨
    ((a.id == b.id) = true ∧ (a.run == b.run) = true ∧ (a.time == b.time) = false ∧ forward a b la lb = false) ∨
    ((a.id == b.id) = true ∧ (a.run == b.run) = true ∧ (a.time == b.time) = true ∧ (a.raw.toList == b.raw.toList) = false ∧ forward a b la lb = false) ∨
    ((a.id == b.id) = true ∧ (a.run == b.run) = true ∧ (a.time == b.time) = true ∧ (a.raw.toList == b.raw.toList) = true ∧
      (((a.state == 0) = true ∧ forward a b la lb = true) ∨ ((a.state == 0) = false ∧ (a.state == b.state) = false ∧ forward a b la lb = false) ∨
       ((a.state == 0) = false ∧ (a.state == b.state) = true ∧ (a.state == 3) = false ∧ forward a b la lb = true) ∨ ((a.state == 0) = false ∧ (a.state == b.state) = true ∧ (a.state == 3) = true ∧ forward a b la lb = mayLegs la lb))) := by
  unfold forward
  rw [ByteArray.toList_eq, ByteArray.toList_eq]
  have h3 : (a.state != 3) = !(a.state == 3) := rfl
  rw [h3]
  cases (a.id == b.id) <;> cases (a.run == b.run) <;> cases (a.time == b.time) <;> cases (a.raw.data.toList == b.raw.data.toList) <;> cases (a.state == 0) <;> cases (a.state == b.state) <;> cases (a.state == 3) <;> simp
end P
theorem ne_of {α : Type} [BEq α] {x y : α} {r : Bool} (h : (x == y) = r) : (x != y) = !r := by rw [bne, h]
set_option maxRecDepth 100000 in
set_option maxHeartbeats 4000000 in
theorem forward_any (id run tm st dn flt : Int) (raw : ByteArray) (A : Option Addr) (m cp : Nat) (la : List P.Leg) (idb runb tmb stb dnb fltb : Int) (rawb : ByteArray) (Ab : Option Addr) (mb cpb : Nat) (lb : List P.Leg) (B : Nat) (w : World)
    (ha : LegsAt w B A m la) (hb : LegsAt w B Ab mb lb) (hB : B ≤ w.heap.size) (hm : m ≤ maxLen) (hmb : mb ≤ maxLen) (hx : ∀ l ∈ la, (Lit.int .i64 l.status).wf = true) (hy : ∀ l ∈ lb, (Lit.int .i64 l.status).wf = true) :
    Calls Try.prog 14 #[.agg #[.int .i64 id, .int .i64 run, .int .i64 tm, .int .i64 st, .int .i64 dn, .string raw, .int .i64 flt, .slice A m cp], .agg #[.int .i64 idb, .int .i64 runb, .int .i64 tmb, .int .i64 stb, .int .i64 dnb, .string rawb, .int .i64 fltb, .slice Ab mb cpb]] w fun e w' => e = .returned (.bool (P.forward ⟨id, run, tm, st, dn, raw, flt⟩ ⟨idb, runb, tmb, stb, dnb, rawb, fltb⟩ la lb)) ∧ Below w.heap.size w w' := by
  have key := P.forward_key ⟨id, run, tm, st, dn, raw, flt⟩ ⟨idb, runb, tmb, stb, dnb, rawb, fltb⟩ la lb
  simp only at key
  have hbel := ((Below.refl w.heap.size w).alloc (Nat.le_refl _) (.cells #[.int .i64 id, .int .i64 run, .int .i64 tm, .int .i64 st, .int .i64 dn, .string raw, .int .i64 flt, .slice A m cp] 33)).alloc (by simp) (.cells #[.int .i64 idb, .int .i64 runb, .int .i64 tmb, .int .i64 stb, .int .i64 dnb, .string rawb, .int .i64 fltb, .slice Ab mb cpb] 33)
  have k0 := (Blk.new w 33 #[.int .i64 id, .int .i64 run, .int .i64 tm, .int .i64 st, .int .i64 dn, .string raw, .int .i64 flt, .slice A m cp]).alloc (.cells #[.int .i64 idb, .int .i64 runb, .int .i64 tmb, .int .i64 stb, .int .i64 dnb, .string rawb, .int .i64 fltb, .slice Ab mb cpb] 33)
  have k1 := Blk.new (w.alloc (.cells #[.int .i64 id, .int .i64 run, .int .i64 tm, .int .i64 st, .int .i64 dn, .string raw, .int .i64 flt, .slice A m cp] 33)) 33 #[.int .i64 idb, .int .i64 runb, .int .i64 tmb, .int .i64 stb, .int .i64 dnb, .string rawb, .int .i64 fltb, .slice Ab mb cpb]
  rw [show (w.alloc (.cells #[.int .i64 id, .int .i64 run, .int .i64 tm, .int .i64 st, .int .i64 dn, .string raw, .int .i64 flt, .slice A m cp] 33)).heap.size = w.heap.size + 1 from by simp] at k1
  have HA := Lib.hid ha
  have HY := Lib.hid hy
  have HX := Lib.hid hx
  have HB := Lib.hid hb
  have K0 := Lib.hid k0
  have K1 := Lib.hid k1
  have BB := Lib.hid hbel
  clear ha hb hx hy k0 k1 hbel
  generalize P.forward ⟨id, run, tm, st, dn, raw, flt⟩ ⟨idb, runb, tmb, stb, dnb, rawb, fltb⟩ la lb = r at *
  rcases key with ⟨t1, hr⟩ | ⟨t1, t2, hr⟩ | ⟨t1, t2, t3, hr⟩ | ⟨t1, t2, t3, t4, hr⟩ | ⟨t1, t2, t3, t4, ⟨t5, hr⟩ | ⟨t5, t6, hr⟩ | ⟨t5, t6, t7, hr⟩ | ⟨t5, t6, t7, hr⟩⟩
  all_goals have HR := Lib.hid hr
  all_goals clear hr
  all_goals have u1 := ne_of t1
  · go_enter Try.func14, Try.ntmps14
    go_wp2
    go_ret
    rw [HR.out]
    exact ⟨rfl, BB.out⟩
  all_goals have u2 := ne_of t2
  · go_enter Try.func14, Try.ntmps14
    go_wp2
    go_ret
    rw [HR.out]
    exact ⟨rfl, BB.out⟩
  all_goals have u3 := ne_of t3
  · go_enter Try.func14, Try.ntmps14
    go_wp2
    go_ret
    rw [HR.out]
    exact ⟨rfl, BB.out⟩
  all_goals have u4 := ne_of t4
  · go_enter Try.func14, Try.ntmps14
    go_wp2
    go_ret
    rw [HR.out]
    exact ⟨rfl, BB.out⟩
  · go_enter Try.func14, Try.ntmps14
    go_wp2
    go_ret
    rw [HR.out]
    exact ⟨rfl, BB.out⟩
  all_goals have u6 := ne_of t6
  · go_enter Try.func14, Try.ntmps14
    go_wp2
    go_ret
    rw [HR.out]
    exact ⟨rfl, BB.out⟩
  all_goals have u7 := ne_of t7
  · go_enter Try.func14, Try.ntmps14
    go_wp2_with fail
    refine (goes_any _).mono ?_
    rintro x w2 ⟨b, nn, rfl, hset, hbs, hb2⟩
    have B2 := Lib.hid (bt'' BB.out hb2)
    have c0 := fun i => ((K0.out.below hb2 K0.out.lt).alloc (.cells #[.map (some b)] 64)).cell i
    clear hset hbs hb2
    go_wp2
    go_ret
    rw [HR.out]
    exact ⟨rfl, B2.out.alloc B2.out.size _⟩
  · go_enter Try.func14, Try.ntmps14
    go_wp2_with fail
    refine (goes_any _).mono ?_
    rintro x w2 ⟨b, nn, rfl, hset, hbs, hb2⟩
    have B2 := Lib.hid (bt'' BB.out hb2)
    have c0 := fun i => ((K0.out.below hb2 K0.out.lt).alloc (.cells #[.map (some b)] 64)).cell i
    have c1 := fun i => ((K1.out.below hb2 K1.out.lt).alloc (.cells #[.map (some b)] 64)).cell i
    have hW := B2.out.alloc B2.out.size (.cells #[.map (some b)] 64)
    have E := Lib.hid (equalFunc_any A m cp la Ab mb cpb lb w2.heap.size b nn B _ (HA.out.below (hW.mono hB)) (HB.out.below (hW.mono hB)) (Nat.le_trans hB hW.size) hm hmb (by simp) ((Blk.new w2 64 #[.map (some b)]).cell 0) (hset.alloc (.cells #[.map (some b)] 64)) HX.out HY.out)
    have W3 := Lib.hid hW
    clear hset hbs hb2 hW
    go_wp2_with fail
    refine E.out.mono ?_
    rintro x w4 ⟨rfl, hb4⟩
    have B4 := Lib.hid (bt'' W3.out hb4)
    clear hb4 c0 c1
    go_wp2
    go_ret
    rw [HR.out]
    exact ⟨rfl, B4.out⟩
end Go.Proofs.Ytjbhlojfmcldjab
