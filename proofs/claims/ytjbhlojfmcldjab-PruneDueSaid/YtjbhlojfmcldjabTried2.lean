/- What prune.Tried returns. -/
import Derived.Test.YtjbhlojfmcldjabMov
namespace Go.Proofs.Ytjbhlojfmcldjab
set_option linter.unusedVariables false
open Go.RowKit Go.BigFrame
theorem add_wf {a : Int} (h : (Lit.int .i64 a).wf = true) : (Lit.int .i64 (P.add a 1)).wf = true := by
  have hb := bounds_i64 h
  have e1 : IntKind.i64.min = -9223372036854775808 := rfl
  have e2 : IntKind.i64.max = 9223372036854775807 := rfl
  have h3 : -9223372036854775808 ≤ P.add a 1 ∧ P.add a 1 ≤ 9223372036854775807 := by
    unfold P.add
    split <;> omega
  unfold Lit.wf
  simp only [e1, e2]
  simp
  exact h3
set_option maxRecDepth 100000 in
set_option maxHeartbeats 2000000 in
theorem tried_any (cn cd cpre cfil ctr : ByteArray) (cf : Bool) (cpt crt : Int) (D : Option Addr) (n dc : Nat) (ds : List P.Dest) (id run tm st dn flt : Int) (raw : ByteArray) (A : Option Addr) (m cp : Nat) (ls : List P.Leg) (dest reply : ByteArray) (now : Int) (B : Nat) (w : World)
    (h : LegsAt w B A m ls) (hd : DestsAt w B D n ds) (hB : B ≤ w.heap.size) (hm : m ≤ 1099511627776) (hn : n ≤ 1099511627776) (hw : ∀ d ∈ ds, (Lit.int .i64 d.chain).wf = true) (hwb : ∀ d ∈ ds, (Lit.int .i64 d.backoff).wf = true) (hnow : (Lit.int .i64 now).wf = true) (ht : ∀ l ∈ ls, (Lit.int .i64 l.tries).wf = true) (hr : reply.size ≤ maxLen) :
    Calls Try.prog 12 #[.agg #[.string cn, .bool cf, .int .i64 cpt, .string cd, .string cpre, .string cfil, .string ctr, .slice D n dc, .int .i64 crt], .agg #[.int .i64 id, .int .i64 run, .int .i64 tm, .int .i64 st, .int .i64 dn, .string raw, .int .i64 flt, .slice A m cp], .string dest, .string reply, .int .i64 now] w (GivesR w id run tm st (P.doneOf st ds ls (P.movedTo (P.triedTurn now ds) st ds ls dest reply) dest dn now) flt raw (P.movedTo (P.triedTurn now ds) st ds ls dest reply)) := by
  have hb := ((((Below.refl w.heap.size w).alloc (Nat.le_refl _) (.cells #[.string cn, .bool cf, .int .i64 cpt, .string cd, .string cpre, .string cfil, .string ctr, .slice D n dc, .int .i64 crt] 24)).alloc (by simp) (.cells #[.int .i64 id, .int .i64 run, .int .i64 tm, .int .i64 st, .int .i64 dn, .string raw, .int .i64 flt, .slice A m cp] 33)).alloc (by simp; omega) (.cells #[.int .i64 now] 3)).alloc (by simp; omega) (.cells #[.int .i64 0, .int .i64 0, .int .i64 0, .int .i64 0, .int .i64 0, .string ⟨#[]⟩, .int .i64 0, .slice none 0 0] 33)
  have k0 := (((Blk.new w 24 #[.string cn, .bool cf, .int .i64 cpt, .string cd, .string cpre, .string cfil, .string ctr, .slice D n dc, .int .i64 crt]).alloc (.cells #[.int .i64 id, .int .i64 run, .int .i64 tm, .int .i64 st, .int .i64 dn, .string raw, .int .i64 flt, .slice A m cp] 33)).alloc (.cells #[.int .i64 now] 3)).alloc (.cells #[.int .i64 0, .int .i64 0, .int .i64 0, .int .i64 0, .int .i64 0, .string ⟨#[]⟩, .int .i64 0, .slice none 0 0] 33)
  have k2 := (Blk.new ((w.alloc (.cells #[.string cn, .bool cf, .int .i64 cpt, .string cd, .string cpre, .string cfil, .string ctr, .slice D n dc, .int .i64 crt] 24)).alloc (.cells #[.int .i64 id, .int .i64 run, .int .i64 tm, .int .i64 st, .int .i64 dn, .string raw, .int .i64 flt, .slice A m cp] 33)) 3 #[.int .i64 now]).alloc (.cells #[.int .i64 0, .int .i64 0, .int .i64 0, .int .i64 0, .int .i64 0, .string ⟨#[]⟩, .int .i64 0, .slice none 0 0] 33)
  have k3 := Blk.new (((w.alloc (.cells #[.string cn, .bool cf, .int .i64 cpt, .string cd, .string cpre, .string cfil, .string ctr, .slice D n dc, .int .i64 crt] 24)).alloc (.cells #[.int .i64 id, .int .i64 run, .int .i64 tm, .int .i64 st, .int .i64 dn, .string raw, .int .i64 flt, .slice A m cp] 33)).alloc (.cells #[.int .i64 now] 3)) 33 #[.int .i64 0, .int .i64 0, .int .i64 0, .int .i64 0, .int .i64 0, .string ⟨#[]⟩, .int .i64 0, .slice none 0 0]
  rw [show ((w.alloc (.cells #[.string cn, .bool cf, .int .i64 cpt, .string cd, .string cpre, .string cfil, .string ctr, .slice D n dc, .int .i64 crt] 24)).alloc (.cells #[.int .i64 id, .int .i64 run, .int .i64 tm, .int .i64 st, .int .i64 dn, .string raw, .int .i64 flt, .slice A m cp] 33)).heap.size = w.heap.size + 2 from by simp] at k2
  rw [show (((w.alloc (.cells #[.string cn, .bool cf, .int .i64 cpt, .string cd, .string cpre, .string cfil, .string ctr, .slice D n dc, .int .i64 crt] 24)).alloc (.cells #[.int .i64 id, .int .i64 run, .int .i64 tm, .int .i64 st, .int .i64 dn, .string raw, .int .i64 flt, .slice A m cp] 33)).alloc (.cells #[.int .i64 now] 3)).heap.size = w.heap.size + 3 from by simp] at k3
  have hz : ((((w.alloc (.cells #[.string cn, .bool cf, .int .i64 cpt, .string cd, .string cpre, .string cfil, .string ctr, .slice D n dc, .int .i64 crt] 24)).alloc (.cells #[.int .i64 id, .int .i64 run, .int .i64 tm, .int .i64 st, .int .i64 dn, .string raw, .int .i64 flt, .slice A m cp] 33)).alloc (.cells #[.int .i64 now] 3)).alloc (.cells #[.int .i64 0, .int .i64 0, .int .i64 0, .int .i64 0, .int .i64 0, .string ⟨#[]⟩, .int .i64 0, .slice none 0 0] 33)).heap.size = w.heap.size + 4 := by simp
  obtain ⟨w0, hw0⟩ : ∃ w0, w0 = ((((w.alloc (.cells #[.string cn, .bool cf, .int .i64 cpt, .string cd, .string cpre, .string cfil, .string ctr, .slice D n dc, .int .i64 crt] 24)).alloc (.cells #[.int .i64 id, .int .i64 run, .int .i64 tm, .int .i64 st, .int .i64 dn, .string raw, .int .i64 flt, .slice A m cp] 33)).alloc (.cells #[.int .i64 now] 3)).alloc (.cells #[.int .i64 0, .int .i64 0, .int .i64 0, .int .i64 0, .int .i64 0, .string ⟨#[]⟩, .int .i64 0, .slice none 0 0] 33)) := ⟨_, rfl⟩
  have hturn : Turns 28 #[.pointer (some ⟨w.heap.size, 0, none⟩), .pointer (some ⟨w.heap.size + 2, 0, none⟩)] (P.triedTurn now ds) id run tm st dn flt raw ds ls reply w0 := by
    rw [← hw0] at hb k0 k2 hz
    intro W g k rb c2 l d Bo hW ho hl hdm hrb hg0 hne hg
    have hkl : k < ls.length := by
      rcases Nat.lt_or_ge k ls.length with h1 | h1
      · exact h1
      · rw [List.getElem?_eq_none h1] at hl; cases hl
    have hb2 : Below w.heap.size w W := hb.trans (hW.mono hb.size)
    have hlm := h.len
    refine tried1_any cn cd cpre cfil ctr cf cpt crt D n dc ds id run tm st dn flt raw g ls.length c2 k rb w.heap.size (w.heap.size + 2) (ls.set k (P.touch l reply)) (P.touch l reply) d now Bo B W (hd.below (hb2.mono hB)) (Nat.le_trans hB hb2.size) (by omega) ho (by rw [List.length_set]) (by rw [List.getElem?_set_self hkl]) hrb hne hg (by unfold maxLen; omega) (by unfold maxLen; omega) (k0.below hW (by omega)) (k2.below hW (by omega)) hnow (hwb d hdm) ?_
    exact add_wf (ht l (List.mem_of_getElem? hl))
  have KC := Lib.hid (moved_any 28 #[.pointer (some ⟨w.heap.size, 0, none⟩), .pointer (some ⟨w.heap.size + 2, 0, none⟩)] (P.triedTurn now ds) cn cd cpre cfil ctr cf cpt crt D n dc ds id run tm st dn flt raw A m cp ls dest reply now B w0 (hw0 ▸ h.below (hb.mono hB)) (hw0 ▸ hd.below (hb.mono hB)) (hw0 ▸ Nat.le_trans hB hb.size) hm hn hw ht hr (fun args w => rfl) hturn)
  have HB := Lib.hid hb
  have K3 := Lib.hid k3
  have HZ := Lib.hid hz
  rw [hw0] at KC
  clear h hd hw hwb hnow ht k0 k2 k3 hb hz hturn hw0 w0
  generalize P.doneOf st ds ls (P.movedTo (P.triedTurn now ds) st ds ls dest reply) dest dn now = dn2 at *
  generalize P.movedTo (P.triedTurn now ds) st ds ls dest reply = ls2 at *
  go_enter Try.func12, Try.ntmps12
  go_wp2_with fail
  refine KC.out.mono ?_
  rintro x w2 ⟨v, rfl, hown, hb2⟩
  obtain ⟨A2, c2, rfl, -⟩ := hown.reads
  rw [HZ.out] at hown
  have c3 := fun i => (K3.out.below hb2 K3.out.lt).cell i
  have f3 := fun i => (K3.out.below hb2 K3.out.lt).frozen i
  have B2 := Lib.hid (HB.out.trans (hb2.mono HB.out.size))
  have OW := Lib.hid hown
  clear hb2 hown
  go_wp2
  refine bodyPost_ret (v := .agg #[.int .i64 id, .int .i64 run, .int .i64 tm, .int .i64 st, .int .i64 dn2, .string raw, .int .i64 flt, .slice A2 ls2.length c2]) (by simp [results, Try.results12, go_sem, c3]) rfl ⟨_, rfl, ?_, ?_⟩
  · refine OwnL.less (B := w.heap.size + 4) ?_ (by omega)
    repeat (refine OwnL.far ?_ (by simp) _)
    exact OW.out
  · repeat (refine Below.setCell ?_ (by simp; omega) _)
    exact B2.out
end Go.Proofs.Ytjbhlojfmcldjab
