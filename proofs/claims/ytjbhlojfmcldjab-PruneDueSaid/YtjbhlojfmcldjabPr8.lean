/- What prune.Sent returns. -/
import Derived.Test.YtjbhlojfmcldjabPr7
namespace Go.Proofs.Ytjbhlojfmcldjab
set_option linter.unusedVariables false
open Go.RowKit Go.BigFrame
set_option maxRecDepth 100000 in
set_option maxHeartbeats 2000000 in
theorem sent_any (cn cd cpre cfil ctr : ByteArray) (cf : Bool) (cpt crt : Int) (D : Option Addr) (n dc : Nat) (ds : List P.Dest) (id run tm st dn flt : Int) (raw : ByteArray) (A : Option Addr) (m cp : Nat) (ls : List P.Leg) (dest reply : ByteArray) (now : Int) (B : Nat) (w : World)
    (h : LegsAt w B A m ls) (hd : DestsAt w B D n ds) (hB : B ≤ w.heap.size) (hm : m ≤ 1099511627776) (hn : n ≤ 1099511627776) (hw : ∀ d ∈ ds, (Lit.int .i64 d.chain).wf = true) (ht : ∀ l ∈ ls, (Lit.int .i64 l.tries).wf = true) (hr : reply.size ≤ maxLen) :
    Calls Try.prog 13 #[.agg #[.string cn, .bool cf, .int .i64 cpt, .string cd, .string cpre, .string cfil, .string ctr, .slice D n dc, .int .i64 crt], .agg #[.int .i64 id, .int .i64 run, .int .i64 tm, .int .i64 st, .int .i64 dn, .string raw, .int .i64 flt, .slice A m cp], .string dest, .string reply, .int .i64 now] w (GivesR w id run tm st (P.doneOf st ds ls (P.turned P.sentLeg st ds ls dest reply) dest dn now) flt raw (P.turned P.sentLeg st ds ls dest reply)) := by
  have hb := (((Below.refl w.heap.size w).alloc (Nat.le_refl _) (.cells #[.string cn, .bool cf, .int .i64 cpt, .string cd, .string cpre, .string cfil, .string ctr, .slice D n dc, .int .i64 crt] 24)).alloc (by simp) (.cells #[.int .i64 id, .int .i64 run, .int .i64 tm, .int .i64 st, .int .i64 dn, .string raw, .int .i64 flt, .slice A m cp] 33)).alloc (by simp; omega) (.cells #[.int .i64 0, .int .i64 0, .int .i64 0, .int .i64 0, .int .i64 0, .string ⟨#[]⟩, .int .i64 0, .slice none 0 0] 33)
  have k3 := Blk.new ((w.alloc (.cells #[.string cn, .bool cf, .int .i64 cpt, .string cd, .string cpre, .string cfil, .string ctr, .slice D n dc, .int .i64 crt] 24)).alloc (.cells #[.int .i64 id, .int .i64 run, .int .i64 tm, .int .i64 st, .int .i64 dn, .string raw, .int .i64 flt, .slice A m cp] 33)) 33 #[.int .i64 0, .int .i64 0, .int .i64 0, .int .i64 0, .int .i64 0, .string ⟨#[]⟩, .int .i64 0, .slice none 0 0]
  rw [show ((w.alloc (.cells #[.string cn, .bool cf, .int .i64 cpt, .string cd, .string cpre, .string cfil, .string ctr, .slice D n dc, .int .i64 crt] 24)).alloc (.cells #[.int .i64 id, .int .i64 run, .int .i64 tm, .int .i64 st, .int .i64 dn, .string raw, .int .i64 flt, .slice A m cp] 33)).heap.size = w.heap.size + 2 from by simp] at k3
  have hz : (((w.alloc (.cells #[.string cn, .bool cf, .int .i64 cpt, .string cd, .string cpre, .string cfil, .string ctr, .slice D n dc, .int .i64 crt] 24)).alloc (.cells #[.int .i64 id, .int .i64 run, .int .i64 tm, .int .i64 st, .int .i64 dn, .string raw, .int .i64 flt, .slice A m cp] 33)).alloc (.cells #[.int .i64 0, .int .i64 0, .int .i64 0, .int .i64 0, .int .i64 0, .string ⟨#[]⟩, .int .i64 0, .slice none 0 0] 33)).heap.size = w.heap.size + 3 := by simp
  have KC := Lib.hid (movedSent_any cn cd cpre cfil ctr cf cpt crt D n dc ds id run tm st dn flt raw A m cp ls dest reply now B _ (h.below (hb.mono hB)) (hd.below (hb.mono hB)) (Nat.le_trans hB hb.size) hm hn hw ht hr)
  have HB := Lib.hid hb
  have K3 := Lib.hid k3
  have HZ := Lib.hid hz
  clear h hd hw ht k3 hb hz
  generalize P.doneOf st ds ls (P.turned P.sentLeg st ds ls dest reply) dest dn now = dn2 at *
  generalize P.turned P.sentLeg st ds ls dest reply = ls2 at *
  go_enter Try.func13, Try.ntmps13
  go_wp2_with fail
  refine KC.out.mono ?_
  rintro x w2 ⟨v, rfl, hown, hb2⟩
  obtain ⟨A2, c2, rfl, -⟩ := hown.reads
  rw [HZ.out] at hown
  have c3 := fun i => (K3.out.below hb2 K3.out.lt).cell i
  have f3 := fun i => (K3.out.below hb2 K3.out.lt).frozen i
  have B2 := Lib.hid (HB.out.trans (hb2.mono HB.out.size))
  have OW := Lib.hid hown
  clear hb2 hown
  go_wp2
  refine bodyPost_ret (v := .agg #[.int .i64 id, .int .i64 run, .int .i64 tm, .int .i64 st, .int .i64 dn2, .string raw, .int .i64 flt, .slice A2 ls2.length c2]) (by simp [results, Try.results13, go_sem, c3]) rfl ⟨_, rfl, ?_, ?_⟩
  · refine OwnL.less (B := w.heap.size + 3) ?_ (by omega)
    repeat (refine OwnL.far ?_ (by simp) _)
    exact OW.out
  · repeat (refine Below.setCell ?_ (by simp; omega) _)
    exact B2.out
end Go.Proofs.Ytjbhlojfmcldjab
