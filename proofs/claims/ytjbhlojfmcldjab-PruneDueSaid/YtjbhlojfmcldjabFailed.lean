/- What prune.Failed returns. -/
import Derived.Test.YtjbhlojfmcldjabTried2
namespace Go.Proofs.Ytjbhlojfmcldjab
set_option linter.unusedVariables false
open Go.RowKit Go.BigFrame
set_option maxRecDepth 100000 in
set_option maxHeartbeats 4000000 in
theorem failed1_any (cn cd cpre cfil ctr : ByteArray) (cf : Bool) (cpt crt : Int) (D : Option Addr) (n dc : Nat) (ds : List P.Dest) (id run tm st dn flt : Int) (raw : ByteArray) (g m cp k rb cb : Nat) (ls : List P.Leg) (l : P.Leg) (d : P.Dest) (Bo B : Nat) (w : World)
    (hd : DestsAt w B D n ds) (hB : B ≤ w.heap.size) (hBg : B ≤ g) (hown : OwnL w Bo (.slice (some ⟨g, 0, none⟩) m cp) ls) (hlen : ls.length = m) (hl : ls[k]? = some l) (hr : Blk w rb 33 #[.int .i64 id, .int .i64 run, .int .i64 tm, .int .i64 st, .int .i64 dn, .string raw, .int .i64 flt, .slice (some ⟨g, 0, none⟩) m cp]) (hne : rb ≠ g) (hg : g < w.heap.size) (hn : n ≤ maxLen) (hm : m ≤ maxLen)
    (hc : Blk w cb 24 #[.string cn, .bool cf, .int .i64 cpt, .string cd, .string cpre, .string cfil, .string ctr, .slice D n dc, .int .i64 crt]) :
    Calls Try.prog 26 #[.pointer (some ⟨g, k * 6, none⟩), .agg #[.string d.name, .int .i64 d.chain, .bool d.file, .int .i64 d.port, .string d.dir, .int .i64 d.retry, .int .i64 d.backoff, .int .i64 d.timeout, .string d.response], .pointer (some ⟨rb, 0, none⟩), .pointer (some ⟨cb, 0, none⟩)] w fun e w' => e = .returned (.tuple #[]) ∧ OwnL w' Bo (.slice (some ⟨g, 0, none⟩) m cp) (P.failTurn ds ls k l d) ∧ w.grownBy w' (some g) := by
  have hs1 : Stays w (w.alloc (.cells #[.string d.name, .int .i64 d.chain, .bool d.file, .int .i64 d.port, .string d.dir, .int .i64 d.retry, .int .i64 d.backoff, .int .i64 d.timeout, .string d.response] 43)) := Stays.alloc w _
  have kd := Blk.new w 43 #[.string d.name, .int .i64 d.chain, .bool d.file, .int .i64 d.port, .string d.dir, .int .i64 d.retry, .int .i64 d.backoff, .int .i64 d.timeout, .string d.response]
  have FA := Lib.hid (fail_any cn cd cpre cfil ctr cf cpt crt D n dc ds id run tm st dn flt raw g m cp k rb ls l d Bo B _ (hd.below (hs1.mono hB)) (Nat.le_trans hB hs1.size) hBg (hown.stays hs1) hlen hl (hr.stays hs1) hne (Nat.lt_of_lt_of_le hg hs1.size) hn hm)
  have S1 := Lib.hid hs1
  have c0 := fun i => (hc.stays hs1).cell i
  have c1 := fun i => kd.cell i
  clear hd hown hlen hl hr hc hs1 kd
  unfold P.failTurn
  go_enter Try.func26, Try.ntmps26
  go_wp2_with fail
  refine FA.out.mono ?_
  rintro e w2 ⟨rfl, ho, hgr⟩
  have O2 := Lib.hid ho
  have G2 := Lib.hid ((S1.out.grown (some g)).trans hgr)
  clear ho hgr
  go_wp2
  go_end0
  exact ⟨rfl, O2.out, G2.out⟩
set_option maxRecDepth 100000 in
set_option maxHeartbeats 2000000 in
theorem failed_any (cn cd cpre cfil ctr : ByteArray) (cf : Bool) (cpt crt : Int) (D : Option Addr) (n dc : Nat) (ds : List P.Dest) (id run tm st dn flt : Int) (raw : ByteArray) (A : Option Addr) (m cp : Nat) (ls : List P.Leg) (dest reply : ByteArray) (now : Int) (B : Nat) (w : World)
    (h : LegsAt w B A m ls) (hd : DestsAt w B D n ds) (hB : B ≤ w.heap.size) (hm : m ≤ 1099511627776) (hn : n ≤ 1099511627776) (hw : ∀ d ∈ ds, (Lit.int .i64 d.chain).wf = true) (ht : ∀ l ∈ ls, (Lit.int .i64 l.tries).wf = true) (hr : reply.size ≤ maxLen) :
    Calls Try.prog 11 #[.agg #[.string cn, .bool cf, .int .i64 cpt, .string cd, .string cpre, .string cfil, .string ctr, .slice D n dc, .int .i64 crt], .agg #[.int .i64 id, .int .i64 run, .int .i64 tm, .int .i64 st, .int .i64 dn, .string raw, .int .i64 flt, .slice A m cp], .string dest, .string reply, .int .i64 now] w (GivesR w id run tm st (P.doneOf st ds ls (P.movedTo (P.failTurn ds) st ds ls dest reply) dest dn now) flt raw (P.movedTo (P.failTurn ds) st ds ls dest reply)) := by
  have hb := (((Below.refl w.heap.size w).alloc (Nat.le_refl _) (.cells #[.string cn, .bool cf, .int .i64 cpt, .string cd, .string cpre, .string cfil, .string ctr, .slice D n dc, .int .i64 crt] 24)).alloc (by simp) (.cells #[.int .i64 id, .int .i64 run, .int .i64 tm, .int .i64 st, .int .i64 dn, .string raw, .int .i64 flt, .slice A m cp] 33)).alloc (by simp; omega) (.cells #[.int .i64 0, .int .i64 0, .int .i64 0, .int .i64 0, .int .i64 0, .string ⟨#[]⟩, .int .i64 0, .slice none 0 0] 33)
  have k0 := ((Blk.new w 24 #[.string cn, .bool cf, .int .i64 cpt, .string cd, .string cpre, .string cfil, .string ctr, .slice D n dc, .int .i64 crt]).alloc (.cells #[.int .i64 id, .int .i64 run, .int .i64 tm, .int .i64 st, .int .i64 dn, .string raw, .int .i64 flt, .slice A m cp] 33)).alloc (.cells #[.int .i64 0, .int .i64 0, .int .i64 0, .int .i64 0, .int .i64 0, .string ⟨#[]⟩, .int .i64 0, .slice none 0 0] 33)
  have k3 := Blk.new ((w.alloc (.cells #[.string cn, .bool cf, .int .i64 cpt, .string cd, .string cpre, .string cfil, .string ctr, .slice D n dc, .int .i64 crt] 24)).alloc (.cells #[.int .i64 id, .int .i64 run, .int .i64 tm, .int .i64 st, .int .i64 dn, .string raw, .int .i64 flt, .slice A m cp] 33)) 33 #[.int .i64 0, .int .i64 0, .int .i64 0, .int .i64 0, .int .i64 0, .string ⟨#[]⟩, .int .i64 0, .slice none 0 0]
  rw [show ((w.alloc (.cells #[.string cn, .bool cf, .int .i64 cpt, .string cd, .string cpre, .string cfil, .string ctr, .slice D n dc, .int .i64 crt] 24)).alloc (.cells #[.int .i64 id, .int .i64 run, .int .i64 tm, .int .i64 st, .int .i64 dn, .string raw, .int .i64 flt, .slice A m cp] 33)).heap.size = w.heap.size + 2 from by simp] at k3
  have hz : (((w.alloc (.cells #[.string cn, .bool cf, .int .i64 cpt, .string cd, .string cpre, .string cfil, .string ctr, .slice D n dc, .int .i64 crt] 24)).alloc (.cells #[.int .i64 id, .int .i64 run, .int .i64 tm, .int .i64 st, .int .i64 dn, .string raw, .int .i64 flt, .slice A m cp] 33)).alloc (.cells #[.int .i64 0, .int .i64 0, .int .i64 0, .int .i64 0, .int .i64 0, .string ⟨#[]⟩, .int .i64 0, .slice none 0 0] 33)).heap.size = w.heap.size + 3 := by simp
  obtain ⟨w0, hw0⟩ : ∃ w0, w0 = (((w.alloc (.cells #[.string cn, .bool cf, .int .i64 cpt, .string cd, .string cpre, .string cfil, .string ctr, .slice D n dc, .int .i64 crt] 24)).alloc (.cells #[.int .i64 id, .int .i64 run, .int .i64 tm, .int .i64 st, .int .i64 dn, .string raw, .int .i64 flt, .slice A m cp] 33)).alloc (.cells #[.int .i64 0, .int .i64 0, .int .i64 0, .int .i64 0, .int .i64 0, .string ⟨#[]⟩, .int .i64 0, .slice none 0 0] 33)) := ⟨_, rfl⟩
  have hturn : Turns 26 #[.pointer (some ⟨w.heap.size, 0, none⟩)] (P.failTurn ds) id run tm st dn flt raw ds ls reply w0 := by
    rw [← hw0] at hb k0 hz
    intro W g k rb c2 l d Bo hW ho hl hdm hrb hg0 hne hg
    have hkl : k < ls.length := by
      rcases Nat.lt_or_ge k ls.length with h1 | h1
      · exact h1
      · rw [List.getElem?_eq_none h1] at hl; cases hl
    have hb2 : Below w.heap.size w W := hb.trans (hW.mono hb.size)
    have hlm := h.len
    exact failed1_any cn cd cpre cfil ctr cf cpt crt D n dc ds id run tm st dn flt raw g ls.length c2 k rb w.heap.size (ls.set k (P.touch l reply)) (P.touch l reply) d Bo B W (hd.below (hb2.mono hB)) (Nat.le_trans hB hb2.size) (by omega) ho (by rw [List.length_set]) (by rw [List.getElem?_set_self hkl]) hrb hne hg (by unfold maxLen; omega) (by unfold maxLen; omega) (k0.below hW (by omega))
  have KC := Lib.hid (moved_any 26 #[.pointer (some ⟨w.heap.size, 0, none⟩)] (P.failTurn ds) cn cd cpre cfil ctr cf cpt crt D n dc ds id run tm st dn flt raw A m cp ls dest reply now B w0 (hw0 ▸ h.below (hb.mono hB)) (hw0 ▸ hd.below (hb.mono hB)) (hw0 ▸ Nat.le_trans hB hb.size) hm hn hw ht hr (fun args w => rfl) hturn)
  have HB := Lib.hid hb
  have K3 := Lib.hid k3
  have HZ := Lib.hid hz
  rw [hw0] at KC
  clear h hd hw ht k0 k3 hb hz hturn hw0 w0
  generalize P.doneOf st ds ls (P.movedTo (P.failTurn ds) st ds ls dest reply) dest dn now = dn2 at *
  generalize P.movedTo (P.failTurn ds) st ds ls dest reply = ls2 at *
  go_enter Try.func11, Try.ntmps11
  go_wp2_with fail
  refine KC.out.mono ?_
  rintro x w2 ⟨v, rfl, hown, hb2⟩
  obtain ⟨A2, c2, rfl, -⟩ := hown.reads
  rw [HZ.out] at hown
  have c3 := fun i => (K3.out.below hb2 K3.out.lt).cell i
  have f3 := fun i => (K3.out.below hb2 K3.out.lt).frozen i
  have B2 := Lib.hid (HB.out.trans (hb2.mono HB.out.size))
  have OW := Lib.hid hown
  clear hb2 hown
  go_wp2
  refine bodyPost_ret (v := .agg #[.int .i64 id, .int .i64 run, .int .i64 tm, .int .i64 st, .int .i64 dn2, .string raw, .int .i64 flt, .slice A2 ls2.length c2]) (by simp [results, Try.results11, go_sem, c3]) rfl ⟨_, rfl, ?_, ?_⟩
  · refine OwnL.less (B := w.heap.size + 3) ?_ (by omega)
    repeat (refine OwnL.far ?_ (by simp) _)
    exact OW.out
  · repeat (refine Below.setCell ?_ (by simp; omega) _)
    exact B2.out
end Go.Proofs.Ytjbhlojfmcldjab
