/- What prune.Sent returns: a row with a leg that was sent. -/
import Derived.Test.YtemjipongehjlaaGreatL4
import Derived.Test.YtemjipongehjlaaGreatL5
import Derived.OpenShut
namespace Go.Proofs.YtemjipongehjlaaGreat
set_option linter.unusedVariables false
open Go.RowKit Go.BigFrame
namespace P
def clip (s : ByteArray) : ByteArray := s.extract 0 (min s.size 200)
def touch (l : Leg) (reply : ByteArray) : Leg := { l with tries := add l.tries 1, reply := clip reply }
/-- The legs behind a delivery: that of the destination is turned, if it may be gone. -/
def turned (f : Leg → Leg) (state : Int) (ds : List Dest) (ls : List Leg) (dest reply : ByteArray) : List Leg :=
  if hasS (next state ds ls) dest = true then match legAt ls dest with
    | some k => match ls[k]? with
      | some l => ls.set k (f (touch l reply))
      | none => ls
    | none => ls
  else ls
theorem nextGo_le (ls : List Leg) : ∀ (ds : List Dest) (busy : List Int), (nextGo ls ds busy).length ≤ ds.length
  | [], _ => by simp [nextGo]
  | d :: ds, busy => by
    have h1 := nextGo_le ls ds busy
    have h2 := nextGo_le ls ds (d.chain :: busy)
    rw [nextGo]
    split
    · simp; omega
    · split
      · simp; omega
      · split
        · split
          · simp; omega
          · simp; omega
        · simp; omega
theorem next_le (state : Int) (ds : List Dest) (ls : List Leg) : (next state ds ls).length ≤ ds.length := by
  unfold next
  split
  · exact nextGo_le ls ds []
  · simp
def sentLeg (l : Leg) : Leg := { l with status := 3, due := 0 }
def doneOf (state : Int) (ds : List Dest) (ls ls' : List Leg) (dest : ByteArray) (dn now : Int) : Int :=
  if hasS (next state ds ls) dest = true then (if terminal state ls' = true ∧ dn = -1 then now else dn) else dn
theorem turned_no {f : Leg → Leg} {state : Int} {ds : List Dest} {ls : List Leg} {dest reply : ByteArray} (h : hasS (next state ds ls) dest = false) : turned f state ds ls dest reply = ls := by
  unfold turned; rw [h]; rfl
end P
namespace P
theorem nextGo_mem {ls : List Leg} : ∀ {ds : List Dest} {busy : List Int} {x : ByteArray}, x ∈ nextGo ls ds busy → ∃ d ∈ ds, d.name = x ∧ ∃ k l, legAt ls d.name = some k ∧ ls[k]? = some l ∧ l.isOpen = true
  | [], _, x, h => by simp [nextGo] at h
  | d :: ds, busy, x, h => by
    have up : ∀ b, x ∈ nextGo ls ds b → ∃ d' ∈ d :: ds, d'.name = x ∧ ∃ k l, legAt ls d'.name = some k ∧ ls[k]? = some l ∧ l.isOpen = true := fun b hb => by
      obtain ⟨d', hd', r⟩ := nextGo_mem hb
      exact ⟨d', List.mem_cons_of_mem _ hd', r⟩
    rw [nextGo] at h
    split at h
    · exact up _ h
    · rename_i k hk
      split at h
      · exact up _ h
      · rename_i l hl
        split at h
        · rename_i ho
          split at h
          · exact up _ h
          · rcases List.mem_cons.1 h with h | h
            · exact ⟨d, by simp, h.symm, k, l, hk, hl, ho⟩
            · exact up _ h
        · exact up _ h
theorem bytes_eq {a b : ByteArray} (h : a.data.toList = b.data.toList) : a = b := by
  cases a; cases b
  congr 1
  exact Array.ext' h
theorem turned_key {state : Int} {ds : List Dest} {ls : List Leg} {dest : ByteArray} (h : hasS (next state ds ls) dest = true) :
    state = 3 ∧ (∃ k l, legAt ls dest = some k ∧ legI ls dest = (k : Int) ∧ ls[k]? = some l ∧ l.isOpen = true ∧ k < ls.length) ∧ ∃ k d, destAt ds dest = some k ∧ destI ds dest = (k : Int) ∧ ds[k]? = some d ∧ k < ds.length := by
  have hst : state = 3 := by
    rcases Classical.em (state = 3) with h3 | h3
    · exact h3
    · unfold next at h
      rw [if_neg h3] at h
      cases h
  unfold next at h
  rw [if_pos hst] at h
  obtain ⟨x, hx, he⟩ := List.any_eq_true.1 h
  have hxd : dest = x := bytes_eq (by simpa using he)
  subst hxd
  obtain ⟨d, hd, hn, k, l, hk, hl, ho⟩ := nextGo_mem hx
  rw [hn] at hk
  have hkl : k < ls.length := by
    rcases Nat.lt_or_ge k ls.length with h1 | h1
    · exact h1
    · rw [List.getElem?_eq_none h1] at hl; cases hl
  refine ⟨hst, ⟨k, l, hk, by unfold legI; rw [hk], hl, ho, hkl⟩, ?_⟩
  cases hf : destAt ds dest with
  | none =>
    unfold destAt at hf
    rw [List.findIdx?_eq_none_iff] at hf
    have := hf d hd
    rw [hn] at this
    simp at this
  | some kd =>
    have h2 := hf
    unfold destAt at h2
    obtain ⟨hkd, _, _⟩ := List.findIdx?_eq_some_iff_getElem.1 h2
    exact ⟨kd, ds[kd], rfl, by unfold destI; rw [hf], List.getElem?_eq_getElem hkd, hkd⟩
theorem turned_yes {f : Leg → Leg} {state : Int} {ds : List Dest} {ls : List Leg} {dest reply : ByteArray} {k : Nat} {l : Leg} (h : hasS (next state ds ls) dest = true) (hk : legAt ls dest = some k) (hl : ls[k]? = some l) : turned f state ds ls dest reply = ls.set k (f (touch l reply)) := by
  unfold turned
  rw [if_pos h, hk]
  simp only [hl]
end P
theorem Blk.set9 {w : World} {g0 : Nat} {t : TypeId} {a b c d e f g9 h i a' b' c' d' e' f' g' h' i' : Value} (hk : Blk w g0 t #[a', b', c', d', e', f', g', h', i']) : Blk (w.setCells g0 0 [a, b, c, d, e, f, g9, h, i]) g0 t #[a, b, c, d, e, f, g9, h, i] := by
  have := ((((((((hk.set_ 0 a).set_ 1 b).set_ 2 c).set_ 3 d).set_ 4 e).set_ 5 f).set_ 6 g9).set_ 7 h).set_ 8 i
  simpa [World.setCells] using this
theorem flat_set {l : P.Leg} {l' : P.Leg} {j : Nat} {u : Value} (hc : l'.cells = l.cells.set j u) (hj : j < 6) : ∀ (ls : List P.Leg) (k : Nat), ls[k]? = some l → (ls.flatMap P.Leg.cells).set (k * 6 + j) u = (ls.set k l').flatMap P.Leg.cells
  | [], k, h => by simp at h
  | x :: ls, 0, h => by
    simp at h
    subst h
    rw [List.set_cons_zero, List.flatMap_cons, List.flatMap_cons, hc, Nat.zero_mul, Nat.zero_add, List.set_append_left _ _ (by rw [leg_len]; exact hj)]
  | x :: ls, k + 1, h => by
    rw [List.set_cons_succ, List.flatMap_cons, List.flatMap_cons, ← flat_set hc hj ls k (by simpa using h), List.set_append_right _ _ (by rw [leg_len]; omega), leg_len]
    congr 2
    omega
/-- A store into a leg of the call's own. -/
theorem OwnL.put {w : World} {B g c n k j : Nat} {ls : List P.Leg} {l l' : P.Leg} {u : Value} (h : OwnL w B (.slice (some ⟨g, 0, none⟩) n c) ls) (hn : ls.length = n) (hl : ls[k]? = some l) (hc : l'.cells = l.cells.set j u) (hj : j < 6) :
    OwnL (w.setCell ⟨g, k * 6 + j, none⟩ u) B (.slice (some ⟨g, 0, none⟩) n c) (ls.set k l') := by
  subst hn
  have := (World.ownsRow.stored h (k * 6 + j) u).1
  rw [flat_set hc hj ls k hl] at this
  unfold OwnL
  rw [List.length_set]
  exact this
theorem OwnL.frz {w : World} {B g c n : Nat} {ls : List P.Leg} (h : OwnL w B (.slice (some ⟨g, 0, none⟩) n c) ls) (hn : ls.length = n) (j : Nat) : w.frozen? ⟨g, j, none⟩ = false := by
  subst hn
  exact World.ownsRow.frozenAt h j
theorem OwnL.legsAt {w : World} {B g c n : Nat} {ls : List P.Leg} (h : OwnL w B (.slice (some ⟨g, 0, none⟩) n c) ls) (hn : ls.length = n) : LegsAt w w.heap.size (some ⟨g, 0, none⟩) n ls := by
  subst hn
  exact Reads.of_own h
theorem OwnL.far2 {w : World} {B g c n : Nat} {ls : List P.Leg} (h : OwnL w B (.slice (some ⟨g, 0, none⟩) n c) ls) {p : Addr} (hp : g ≠ p.block) (u : Value) : OwnL (w.setCell p u) B (.slice (some ⟨g, 0, none⟩) n c) ls := by
  obtain ⟨h1, h2⟩ := h
  refine ⟨h1, ?_⟩
  rcases h2 with h2 | ⟨g', cap, cur, hv, hg, hh, r⟩
  · exact .inl h2
  · have hgg : g' = g := by
      injection hv with hv
      injection hv with hv
      injection hv with hv
      exact hv.symm
    subst hgg
    exact .inr ⟨g', cap, cur, hv, hg, by rw [Below.heap_setCell _ _ _ _ hp]; exact hh, r⟩
theorem OwnL.legIn {w : World} {B g c n k : Nat} {ls : List P.Leg} {l : P.Leg} (h : OwnL w B (.slice (some ⟨g, 0, none⟩) n c) ls) (hl : ls[k]? = some l) : LegIn w ⟨g, k * 6, none⟩ l := by
  have hk : k < ls.length := by
    rcases Nat.lt_or_ge k ls.length with h1 | h1
    · exact h1
    · rw [List.getElem?_eq_none h1] at hl; cases hl
  have hc := fun j (hj : j < 6) u (hu : l.cells[j]? = some u) => World.ownsRow.cells h (g := g) rfl (k * 6 + j) u (by
    rw [flat_get _ 6 leg_len ls k j hk hj]
    rw [List.getElem?_eq_getElem hk] at hl
    cases hl
    exact hu)
  have ha : ∀ j, (⟨g, 0, none⟩ : Addr).add j = ⟨g, j, none⟩ := fun j => by rw [Addr.add_lit, Nat.zero_add]
  simp only [ha] at hc
  exact ⟨hc 0 (by omega) _ rfl, hc 1 (by omega) _ rfl, hc 2 (by omega) _ rfl, hc 3 (by omega) _ rfl, hc 4 (by omega) _ rfl, hc 5 (by omega) _ rfl⟩
theorem stringsClone_any (s : ByteArray) (w : World) (hs : s.size ≤ 281474976710656) : Calls Tryz.prog 128 #[.string s] w fun e w' => e = .returned (.string s) ∧ Below w.heap.size w w' := by
  have K := Lib.hid (fun W => Tryz.stringslite_Clone s W hs)
  go_enter Tryz.func128, Tryz.ntmps128
  go_wp2_with fail
  refine (K.out _).mono ?_
  rintro e w2 ⟨rfl, hb⟩
  have HB := Lib.hid hb
  clear hb
  go_wp2
  go_ret
  exact ⟨rfl, HB.out⟩
/-- What a delivery that went well turns. -/
theorem sent1_any (g o : Nat) (d : P.Dest) (r s1 s3 : Value) (w : World) (hg : g < w.heap.size) (h1 : w.cell? ⟨g, o + 1, none⟩ = some s1) (h3 : w.cell? ⟨g, o + 3, none⟩ = some s3) (hf : ∀ j, w.frozen? ⟨g, j, none⟩ = false) (v1 v3 : Int) (e1 : s1 = .int .i64 v1) (e3 : s3 = .int .i64 v3) :
    Calls Tryz.prog 34 #[.pointer (some ⟨g, o, none⟩), .agg #[.string d.name, .int .i64 d.chain, .bool d.file, .int .i64 d.port, .string d.dir, .int .i64 d.retry, .int .i64 d.backoff, .int .i64 d.timeout, .string d.response], r] w fun e w' => e = .returned (.tuple #[]) ∧ w' = ((w.setCell ⟨g, o + 1, none⟩ (.int .i64 3)).setCell ⟨g, o + 3, none⟩ (.int .i64 0)).alloc (.cells #[.string d.name, .int .i64 d.chain, .bool d.file, .int .i64 d.port, .string d.dir, .int .i64 d.retry, .int .i64 d.backoff, .int .i64 d.timeout, .string d.response] 67) := by
  subst e1 e3
  go_enter Tryz.func34, Tryz.ntmps34
  go_wp2
  go_end0
  exact ⟨rfl, rfl⟩
theorem bt'' {w a b : World} (h : Below w.heap.size w a) (k : Below a.heap.size a b) : Below w.heap.size w b := h.trans (k.mono h.size)
theorem bt' {w a b : World} (h : Below w.heap.size w a) (k : Stays a b) : Below w.heap.size w b := h.trans (k.mono h.size)
theorem OwnS.stays {x y : World} {B : Nat} {v : Value} {l : List ByteArray} (h : OwnS x B v l) (k : Stays x y) : OwnS y B v l := h.below k (Nat.le_refl _)
theorem OwnL.stays {x y : World} {B : Nat} {v : Value} {l : List P.Leg} (h : OwnL x B v l) (k : Stays x y) : OwnL y B v l := h.below k (Nat.le_refl _)
set_option maxRecDepth 100000 in
set_option maxHeartbeats 4000000 in
theorem movedSent_any (cn cd cpre cfil ctr : ByteArray) (cf : Bool) (cpt crt : Int) (D : Option Addr) (n dc : Nat) (ds : List P.Dest) (id run tm st dn flt : Int) (raw : ByteArray) (A : Option Addr) (m cp : Nat) (ls : List P.Leg) (dest reply : ByteArray) (now : Int) (B : Nat) (w : World)
    (h : LegsAt w B A m ls) (hd : DestsAt w B D n ds) (hB : B ≤ w.heap.size) (hm : m ≤ 1099511627776) (hn : n ≤ 1099511627776) (hw : ∀ d ∈ ds, (Lit.int .i64 d.chain).wf = true) (ht : ∀ l ∈ ls, (Lit.int .i64 l.tries).wf = true) (hr : reply.size ≤ maxLen) :
    Calls Tryz.prog 33 #[.agg #[.string cn, .bool cf, .int .i64 cpt, .string cd, .string cpre, .string cfil, .string ctr, .slice D n dc, .int .i64 crt], .agg #[.int .i64 id, .int .i64 run, .int .i64 tm, .int .i64 st, .int .i64 dn, .string raw, .int .i64 flt, .slice A m cp], .string dest, .string reply, .int .i64 now, .func (.func 34) #[] #[]] w (GivesR w id run tm st (P.doneOf st ds ls (P.turned P.sentLeg st ds ls dest reply) dest dn now) flt raw (P.turned P.sentLeg st ds ls dest reply)) := by
  have hb := ((((Below.refl w.heap.size w).alloc (Nat.le_refl _) (.cells #[.string cn, .bool cf, .int .i64 cpt, .string cd, .string cpre, .string cfil, .string ctr, .slice D n dc, .int .i64 crt] 24)).alloc (by simp) (.cells #[.int .i64 id, .int .i64 run, .int .i64 tm, .int .i64 st, .int .i64 dn, .string raw, .int .i64 flt, .slice A m cp] 28)).alloc (by simp; omega) (.cells #[.string dest] 9)).alloc (by simp; omega) (.cells #[.int .i64 0, .int .i64 0, .int .i64 0, .int .i64 0, .int .i64 0, .string ⟨#[]⟩, .int .i64 0, .slice none 0 0] 28)
  have k0 := (((Blk.new w 24 #[.string cn, .bool cf, .int .i64 cpt, .string cd, .string cpre, .string cfil, .string ctr, .slice D n dc, .int .i64 crt]).alloc (.cells #[.int .i64 id, .int .i64 run, .int .i64 tm, .int .i64 st, .int .i64 dn, .string raw, .int .i64 flt, .slice A m cp] 28)).alloc (.cells #[.string dest] 9)).alloc (.cells #[.int .i64 0, .int .i64 0, .int .i64 0, .int .i64 0, .int .i64 0, .string ⟨#[]⟩, .int .i64 0, .slice none 0 0] 28)
  have k1 := ((Blk.new (w.alloc (.cells #[.string cn, .bool cf, .int .i64 cpt, .string cd, .string cpre, .string cfil, .string ctr, .slice D n dc, .int .i64 crt] 24)) 28 #[.int .i64 id, .int .i64 run, .int .i64 tm, .int .i64 st, .int .i64 dn, .string raw, .int .i64 flt, .slice A m cp]).alloc (.cells #[.string dest] 9)).alloc (.cells #[.int .i64 0, .int .i64 0, .int .i64 0, .int .i64 0, .int .i64 0, .string ⟨#[]⟩, .int .i64 0, .slice none 0 0] 28)
  have k2 := (Blk.new ((w.alloc (.cells #[.string cn, .bool cf, .int .i64 cpt, .string cd, .string cpre, .string cfil, .string ctr, .slice D n dc, .int .i64 crt] 24)).alloc (.cells #[.int .i64 id, .int .i64 run, .int .i64 tm, .int .i64 st, .int .i64 dn, .string raw, .int .i64 flt, .slice A m cp] 28)) 9 #[.string dest]).alloc (.cells #[.int .i64 0, .int .i64 0, .int .i64 0, .int .i64 0, .int .i64 0, .string ⟨#[]⟩, .int .i64 0, .slice none 0 0] 28)
  have k3 := Blk.new (((w.alloc (.cells #[.string cn, .bool cf, .int .i64 cpt, .string cd, .string cpre, .string cfil, .string ctr, .slice D n dc, .int .i64 crt] 24)).alloc (.cells #[.int .i64 id, .int .i64 run, .int .i64 tm, .int .i64 st, .int .i64 dn, .string raw, .int .i64 flt, .slice A m cp] 28)).alloc (.cells #[.string dest] 9)) 28 #[.int .i64 0, .int .i64 0, .int .i64 0, .int .i64 0, .int .i64 0, .string ⟨#[]⟩, .int .i64 0, .slice none 0 0]
  rw [show (w.alloc (.cells #[.string cn, .bool cf, .int .i64 cpt, .string cd, .string cpre, .string cfil, .string ctr, .slice D n dc, .int .i64 crt] 24)).heap.size = w.heap.size + 1 from by simp] at k1
  rw [show ((w.alloc (.cells #[.string cn, .bool cf, .int .i64 cpt, .string cd, .string cpre, .string cfil, .string ctr, .slice D n dc, .int .i64 crt] 24)).alloc (.cells #[.int .i64 id, .int .i64 run, .int .i64 tm, .int .i64 st, .int .i64 dn, .string raw, .int .i64 flt, .slice A m cp] 28)).heap.size = w.heap.size + 2 from by simp] at k2
  rw [show (((w.alloc (.cells #[.string cn, .bool cf, .int .i64 cpt, .string cd, .string cpre, .string cfil, .string ctr, .slice D n dc, .int .i64 crt] 24)).alloc (.cells #[.int .i64 id, .int .i64 run, .int .i64 tm, .int .i64 st, .int .i64 dn, .string raw, .int .i64 flt, .slice A m cp] 28)).alloc (.cells #[.string dest] 9)).heap.size = w.heap.size + 3 from by simp] at k3
  have hz : ((((w.alloc (.cells #[.string cn, .bool cf, .int .i64 cpt, .string cd, .string cpre, .string cfil, .string ctr, .slice D n dc, .int .i64 crt] 24)).alloc (.cells #[.int .i64 id, .int .i64 run, .int .i64 tm, .int .i64 st, .int .i64 dn, .string raw, .int .i64 flt, .slice A m cp] 28)).alloc (.cells #[.string dest] 9)).alloc (.cells #[.int .i64 0, .int .i64 0, .int .i64 0, .int .i64 0, .int .i64 0, .string ⟨#[]⟩, .int .i64 0, .slice none 0 0] 28)).heap.size = w.heap.size + 4 := by simp
  have H := Lib.hid h
  have HD := Lib.hid hd
  have HW := Lib.hid hw
  have HT := Lib.hid ht
  have KC := Lib.hid (copied_any id run tm st dn flt raw A m cp ls B _ (h.below (hb.mono hB)) (Nat.le_trans hB hb.size) hm)
  have HB := Lib.hid hb
  have K0 := Lib.hid k0
  have K1 := Lib.hid k1
  have K2 := Lib.hid k2
  have K3 := Lib.hid k3
  have HZ := Lib.hid hz
  clear h hd hw ht k0 k1 k2 k3 hb hz
  go_enter Tryz.func33, Tryz.ntmps33
  go_wp2_with fail
  refine KC.out.mono ?_
  rintro x w2 ⟨v, rfl, hown, hb2⟩
  obtain ⟨A2, c2, rfl, -⟩ := hown.reads
  rw [HZ.out] at hown
  have Z2 : w.heap.size + 4 ≤ w2.heap.size := by have := hb2.size; rw [HZ.out] at this; exact this
  have X0 := Lib.hid ((K0.out.below hb2 K0.out.lt).alloc (.cells #[.int .i64 id, .int .i64 run, .int .i64 tm, .int .i64 st, .int .i64 dn, .string raw, .int .i64 flt, .slice A2 ls.length c2] 28))
  have X1 := Lib.hid ((K1.out.below hb2 K1.out.lt).alloc (.cells #[.int .i64 id, .int .i64 run, .int .i64 tm, .int .i64 st, .int .i64 dn, .string raw, .int .i64 flt, .slice A2 ls.length c2] 28))
  have X2 := Lib.hid ((K2.out.below hb2 K2.out.lt).alloc (.cells #[.int .i64 id, .int .i64 run, .int .i64 tm, .int .i64 st, .int .i64 dn, .string raw, .int .i64 flt, .slice A2 ls.length c2] 28))
  have X3 := Lib.hid ((K3.out.below hb2 K3.out.lt).alloc (.cells #[.int .i64 id, .int .i64 run, .int .i64 tm, .int .i64 st, .int .i64 dn, .string raw, .int .i64 flt, .slice A2 ls.length c2] 28))
  have X4 := Lib.hid (Blk.new w2 28 #[.int .i64 id, .int .i64 run, .int .i64 tm, .int .i64 st, .int .i64 dn, .string raw, .int .i64 flt, .slice A2 ls.length c2])
  have B2 := Lib.hid ((HB.out.trans (hb2.mono HB.out.size)).alloc (Nat.le_trans HB.out.size hb2.size) (.cells #[.int .i64 id, .int .i64 run, .int .i64 tm, .int .i64 st, .int .i64 dn, .string raw, .int .i64 flt, .slice A2 ls.length c2] 28))
  have OWn := Lib.hid hown
  have OW := Lib.hid (hown.alloc (.cells #[.int .i64 id, .int .i64 run, .int .i64 tm, .int .i64 st, .int .i64 dn, .string raw, .int .i64 flt, .slice A2 ls.length c2] 28))
  clear hb2 hown
  have NC := Lib.hid (fun W (hW : Below w.heap.size w W) => next_any id run tm st dn flt raw A m cp ls cn cd cpre cfil ctr cf cpt crt D n dc ds B W (H.out.below (hW.mono hB)) (HD.out.below (hW.mono hB)) (Nat.le_trans hB hW.size) (by unfold maxLen; omega) hn HW.out)
  have hz2 : (w2.alloc (.cells #[.int .i64 id, .int .i64 run, .int .i64 tm, .int .i64 st, .int .i64 dn, .string raw, .int .i64 flt, .slice A2 ls.length c2] 28)).heap.size = w2.heap.size + 1 := by simp
  have HZ2 := Lib.hid hz2
  clear hz2
  cases hb : P.hasS (P.next st ds ls) dest
  · have HBB := Lib.hid hb
    have HN := Lib.hid (P.turned_no (f := P.sentLeg) (reply := reply) hb)
    have HN2 := Lib.hid (show P.doneOf st ds ls (P.turned P.sentLeg st ds ls dest reply) dest dn now = dn from by unfold P.doneOf; rw [hb]; rfl)
    clear hb
    go_wp2_with fail
    refine wp_region_free 6 [] Stays (fun | 2 => some fun v w' => OwnS w' (w2.heap.size + 1) v (P.next st ds ls) | _ => none) (by kernel_rfl) (by kernel_rfl) Stays.refl (by simp) (Stays.draw _) Stays.trans ?_ ?_
    · intro j φ v x y hB hp hxy
      split at hB <;> cases hB
      exact hp.stays hxy
    · apply wpFree_pure rfl rfl
      · intro vs wx hk K hK
        have c0 := fun i => (X0.out.stays hk.1).cell i
        go_simp
        exact hK _ (Stays.refl _)
      intro KK hKK
      go_simp
      refine hKK _ ?_
      clear hKK KK
      apply wpFree_pure rfl rfl
      · intro vs wx hk K hK
        have c1 := fun i => (X1.out.stays hk.1).cell i
        go_simp
        exact hK _ (Stays.refl _)
      intro KK hKK
      go_simp
      refine hKK _ ?_
      clear hKK KK
      refine wpFree_fact rfl ?_ ?_
      · intro vs wx hk K hK
        have hW := bt' B2.out hk.1
        have hsz := hk.1.size
        rw [HZ2.out] at hsz
        go_simp
        exact (NC.out _ hW).mono fun x w' ⟨v, hx, ho, hb'⟩ => ⟨v, hx, hK _ _ hb' (ho.less hsz)⟩
      intro KK hKK
      go_simp
      refine hKK _ ?_
      clear hKK KK
      apply wpFree_pure rfl rfl
      · intro vs wx hk K hK
        have c2' := fun i => (X2.out.stays hk.1).cell i
        go_simp
        exact hK _ (Stays.refl _)
      intro KK hKK
      go_simp
      refine hKK _ ?_
      clear hKK KK
      apply wpFree_pure rfl rfl
      · intro vs wx hk K hK
        obtain ⟨A3, c3, hv, hs⟩ := OwnS.reads (hk.2 2 _ rfl (by kernel_rfl))
        have CC := contains_any A3 _ c3 (P.next st ds ls) dest wx.heap.size wx hs (by have := P.next_le st ds ls; have := HD.out.len; unfold maxLen; omega)
        rw [HBB.out] at CC
        go_simp
        first
          | exact hK _ (Stays.refl _)
          | exact Calls.free hK (CC.mono fun e w' ⟨he, hw'⟩ => ⟨he, hw' ▸ Stays.refl _⟩)
      intro KK hKK
      go_simp
      refine hKK _ ?_
      clear hKK KK
      apply wpFree_pure rfl rfl
      · intro vs wx hk K hK
        go_simp
        exact hK _ (Stays.refl _)
      intro KK hKK
      go_simp
      refine hKK _ ?_
      clear hKK KK
      refine wpFree_nil ?_
      intro vs w4 hs4 _
      intro KK hKK
      simp only [List.drop_succ_cons, List.drop_nil]
      have Y0 := Lib.hid (X0.out.stays hs4)
      have Y1 := Lib.hid (X1.out.stays hs4)
      have Y2 := Lib.hid (X2.out.stays hs4)
      have Y3 := Lib.hid (X3.out.stays hs4)
      have Y4 := Lib.hid (X4.out.stays hs4)
      have B4 := Lib.hid (bt' B2.out hs4)
      have OW4 := Lib.hid (OW.out.stays hs4)
      have Z4 : w2.heap.size + 1 ≤ w4.heap.size := by have := hs4.size; rw [HZ2.out] at this; exact this
      clear hs4
      have c4 := fun i => Y4.out.cell i
      have f4 := fun i => Y4.out.frozen i
      have c3 := fun i => Y3.out.cell i
      have f3 := fun i => Y3.out.frozen i
      go_wp2
      rw [HN2.out, HN.out]
      refine bodyPost_ret (v := .agg #[.int .i64 id, .int .i64 run, .int .i64 tm, .int .i64 st, .int .i64 dn, .string raw, .int .i64 flt, .slice A2 ls.length c2]) (by simp [results, Tryz.results33, go_sem, c3]) rfl ⟨_, rfl, ?_, ?_⟩
      · refine OwnL.less (B := w.heap.size + 4) ?_ (by omega)
        repeat (refine OwnL.far ?_ (by simp) _)
        exact OW4.out
      · repeat (refine Below.setCell ?_ (by simp; omega) _)
        exact B4.out
  · have HBB := Lib.hid hb
    obtain ⟨hst, ⟨k, l, hk1, hk2, hl, ho, hkl⟩, kd, d, hd1, hd2, hdd, hkd⟩ := P.turned_key hb
    have HN := Lib.hid (P.turned_yes (f := P.sentLeg) (reply := reply) hb hk1 hl)
    have HN2 := Lib.hid (show P.doneOf st ds ls (P.turned P.sentLeg st ds ls dest reply) dest dn now = if P.terminal st (P.turned P.sentLeg st ds ls dest reply) = true ∧ dn = -1 then now else dn from by unfold P.doneOf; rw [if_pos hb])
    have hnd := HD.out.len
    obtain ⟨ad, d', rfl, hdb, hdd', hdc⟩ := HD.out.in_ (k := kd) (by omega)
    obtain rfl : d' = d := Option.some.inj (hdd'.symm.trans hdd)
    obtain ⟨g2, cap, hv, hgb, hgl⟩ := World.ownsRow.form OWn.out (by omega)
    obtain ⟨rfl, rfl⟩ : A2 = some ⟨g2, 0, none⟩ ∧ c2 = cap := by injection hv; exact ⟨by assumption, by assumption⟩
    have DI := Lib.hid hdc
    have HK2 := Lib.hid hk2
    have HL := Lib.hid hl
    have HD2 := Lib.hid hd2
    have hwt := HT.out l (List.mem_of_getElem? hl)
    clear hb hst hk1 hk2 hl ho hd1 hd2 hdd hdd' hdc hv
    have HLM := Lib.hid (show ls.length = m from H.out.len)
    have hkn : kd < n := by omega
    clear hnd
    go_wp2_with fail
    refine wp_region_free 6 [] Stays (fun | 2 => some fun v w' => OwnS w' (w2.heap.size + 1) v (P.next st ds ls) | _ => none) (by kernel_rfl) (by kernel_rfl) Stays.refl (by simp) (Stays.draw _) Stays.trans ?_ ?_
    · intro j φ v x y hB hp hxy
      split at hB <;> cases hB
      exact hp.stays hxy
    · apply wpFree_pure rfl rfl
      · intro vs wx hk K hK
        have c0 := fun i => (X0.out.stays hk.1).cell i
        go_simp
        exact hK _ (Stays.refl _)
      intro KK hKK
      go_simp
      refine hKK _ ?_
      clear hKK KK
      apply wpFree_pure rfl rfl
      · intro vs wx hk K hK
        have c1 := fun i => (X1.out.stays hk.1).cell i
        go_simp
        exact hK _ (Stays.refl _)
      intro KK hKK
      go_simp
      refine hKK _ ?_
      clear hKK KK
      refine wpFree_fact rfl ?_ ?_
      · intro vs wx hk K hK
        have hW := bt' B2.out hk.1
        have hsz := hk.1.size
        rw [HZ2.out] at hsz
        go_simp
        exact (NC.out _ hW).mono fun x w' ⟨v, hx, ho, hb'⟩ => ⟨v, hx, hK _ _ hb' (ho.less hsz)⟩
      intro KK hKK
      go_simp
      refine hKK _ ?_
      clear hKK KK
      apply wpFree_pure rfl rfl
      · intro vs wx hk K hK
        have c2' := fun i => (X2.out.stays hk.1).cell i
        go_simp
        exact hK _ (Stays.refl _)
      intro KK hKK
      go_simp
      refine hKK _ ?_
      clear hKK KK
      apply wpFree_pure rfl rfl
      · intro vs wx hk K hK
        obtain ⟨A3, c3, hv, hs⟩ := OwnS.reads (hk.2 2 _ rfl (by kernel_rfl))
        have CC := contains_any A3 _ c3 (P.next st ds ls) dest wx.heap.size wx hs (by have := P.next_le st ds ls; have := HD.out.len; unfold maxLen; omega)
        rw [HBB.out] at CC
        go_simp
        first
          | exact hK _ (Stays.refl _)
          | exact Calls.free hK (CC.mono fun e w' ⟨he, hw'⟩ => ⟨he, hw' ▸ Stays.refl _⟩)
      intro KK hKK
      go_simp
      refine hKK _ ?_
      clear hKK KK
      apply wpFree_pure rfl rfl
      · intro vs wx hk K hK
        go_simp
        exact hK _ (Stays.refl _)
      intro KK hKK
      go_simp
      refine hKK _ ?_
      clear hKK KK
      refine wpFree_nil ?_
      intro vs w4 hs4 _
      intro KK hKK
      simp only [List.drop_succ_cons, List.drop_nil]
      have Y0 := Lib.hid (X0.out.stays hs4)
      have Y1 := Lib.hid (X1.out.stays hs4)
      have Y2 := Lib.hid (X2.out.stays hs4)
      have Y3 := Lib.hid (X3.out.stays hs4)
      have Y4 := Lib.hid (X4.out.stays hs4)
      have B4 := Lib.hid (bt' B2.out hs4)
      have OW4 := Lib.hid (OW.out.stays hs4)
      have Z4 : w2.heap.size + 1 ≤ w4.heap.size := by have := hs4.size; rw [HZ2.out] at this; exact this
      clear hs4
      go_wp2_with fail
      refine wp_region_free 9 [] Stays (fun | 8 => some fun v w' => ∃ g, v = .pointer (some ⟨g, 0, none⟩) ∧ w4.heap.size ≤ g ∧ Blk w' g 67 #[.string ⟨#[]⟩, .int .i64 0, .bool false, .int .i64 0, .string ⟨#[]⟩, .int .i64 0, .int .i64 0, .int .i64 0, .string ⟨#[]⟩] | _ => none) (by kernel_rfl) (by kernel_rfl) Stays.refl (by simp) (Stays.draw _) Stays.trans ?_ ?_
      · intro j φ v x y hB hp hxy
        split at hB <;> cases hB
        obtain ⟨g, hg, h1, hb⟩ := hp
        exact ⟨g, hg, h1, hb.stays hxy⟩
      · apply wpFree_pure rfl rfl
        · intro vs wx hk K hK
          go_simp
          exact hK _ (Stays.refl _)
        intro KK hKK
        go_simp
        refine hKK _ ?_
        clear hKK KK
        apply wpFree_pure rfl rfl
        · intro vs wx hk K hK
          have c0 := fun i => (Y0.out.stays hk.1).cell i
          go_simp
          exact hK _ (Stays.refl _)
        intro KK hKK
        go_simp
        refine hKK _ ?_
        clear hKK KK
        apply wpFree_pure rfl rfl
        · intro vs wx hk K hK
          go_simp
          exact hK _ (Stays.refl _)
        intro KK hKK
        go_simp
        refine hKK _ ?_
        clear hKK KK
        apply wpFree_pure rfl rfl
        · intro vs wx hk K hK
          have c0 := fun i => (Y0.out.stays hk.1).cell i
          go_simp
          exact hK _ (Stays.refl _)
        intro KK hKK
        go_simp
        refine hKK _ ?_
        clear hKK KK
        apply wpFree_pure rfl rfl
        · intro vs wx hk K hK
          go_simp
          exact hK _ (Stays.refl _)
        intro KK hKK
        go_simp
        refine hKK _ ?_
        clear hKK KK
        apply wpFree_pure rfl rfl
        · intro vs wx hk K hK
          have hW := bt' B4.out hk.1
          have CI := indexDest_any (some ad) n dc ds dest (w.heap.size + 2) B wx (HD.out.below (hW.mono hB)) (Nat.le_trans hB hW.size) (by unfold maxLen; omega) (by have := (Y2.out.stays hk.1).lt; exact this) ((Y2.out.stays hk.1).cell 0)
          rw [HD2.out] at CI
          go_simp
          first
            | exact hK _ (Stays.refl _)
            | exact Calls.free hK CI
        intro KK hKK
        go_simp
        refine hKK _ ?_
        clear hKK KK
        apply wpFree_pure rfl rfl
        · intro vs wx hk K hK
          go_simp
          exact hK _ (Stays.refl _)
        intro KK hKK
        go_simp
        refine hKK _ ?_
        clear hKK KK
        apply wpFree_pure rfl rfl
        · intro vs wx hk K hK
          have hW := bt' B4.out hk.1
          obtain ⟨c0, c1, c2, c3, c4, c5, c6, c7, c8⟩ := DI.out.keep (hW.mono hB) hdb
          go_simp
          exact hK _ (Stays.refl _)
        intro KK hKK
        go_simp
        refine hKK _ ?_
        clear hKK KK
        refine wpFree_fact rfl ?_ ?_
        · intro vs wx hk K hK
          go_simp
          exact hK _ _ (Stays.alloc _ _) ⟨_, rfl, hk.1.size, Blk.new _ _ _⟩
        intro KK hKK
        go_simp
        refine hKK _ ?_
        clear hKK KK
        refine wpFree_nil ?_
        intro vs4 w5 hs5 hf5
        obtain ⟨g14, hg14, hge, hb14⟩ := hf5 8 _ (by omega) rfl
        intro KK2 hKK2
        rw [hg14]
        clear hf5
        simp only [List.drop_succ_cons, List.drop_zero]
        refine wpList_store_mid rfl 67 (.tmp 14) (.tmp 32) rfl g14 0 #[.string d'.name, .int .i64 d'.chain, .bool d'.file, .int .i64 d'.port, .string d'.dir, .int .i64 d'.retry, .int .i64 d'.backoff, .int .i64 d'.timeout, .string d'.response] rfl rfl (hb14.there 9 (by simp)) (by kernel_rfl) (by simp [Value.oneCell']) ?_
        have k14 := hb14.set9 (a := .string d'.name) (b := .int .i64 d'.chain) (c := .bool d'.file) (d := .int .i64 d'.port) (e := .string d'.dir) (f := .int .i64 d'.retry) (g9 := .int .i64 d'.backoff) (h := .int .i64 d'.timeout) (i := .string d'.response)
        have B6 : Below w4.heap.size w4 (w5.setCells g14 0 [.string d'.name, .int .i64 d'.chain, .bool d'.file, .int .i64 d'.port, .string d'.dir, .int .i64 d'.retry, .int .i64 d'.backoff, .int .i64 d'.timeout, .string d'.response]) := below_setCells hs5 hge _ _
        generalize w5.setCells g14 0 [.string d'.name, .int .i64 d'.chain, .bool d'.file, .int .i64 d'.port, .string d'.dir, .int .i64 d'.retry, .int .i64 d'.backoff, .int .i64 d'.timeout, .string d'.response] = w6 at *
        have B66 := Lib.hid (B4.out.trans (B6.mono B4.out.size))
        have V2 := Lib.hid (Y2.out.below B6 Y2.out.lt)
        have V3 := Lib.hid (Y3.out.below B6 Y3.out.lt)
        have V4 := Lib.hid (Y4.out.below B6 Y4.out.lt)
        have OW6 := Lib.hid (OW4.out.below B6 (Nat.le_refl _))
        have K14 := Lib.hid k14
        have hg2 : g2 < w4.heap.size := by omega
        have hz6 : w4.heap.size ≤ w6.heap.size := B6.size
        clear hs5 hb14 hg14 k14 B6
        have LG := Lib.hid (show LegsAt w6 w6.heap.size (some ⟨g2, 0, none⟩) ls.length ls from Reads.of_own OW6.out)
        have hln : ls.length ≤ 1099511627776 := by have := HLM.out; omega
        go_wp2_with fail
        refine wp_region_free 7 [] Stays (fun _ => none) (by kernel_rfl) (by kernel_rfl) Stays.refl (by simp) (Stays.draw _) Stays.trans (fun j φ v x y hB => by cases hB) ?_
        apply wpFree_pure rfl rfl
        · intro vs wx hk K hK
          go_simp
          exact hK _ (Stays.refl _)
        intro KK hKK
        go_simp
        refine hKK _ ?_
        clear hKK KK
        apply wpFree_pure rfl rfl
        · intro vs wx hk K hK
          have c4 := fun i => (V4.out.stays hk.1).cell i
          go_simp
          exact hK _ (Stays.refl _)
        intro KK hKK
        go_simp
        refine hKK _ ?_
        clear hKK KK
        apply wpFree_pure rfl rfl
        · intro vs wx hk K hK
          have c4 := fun i => (V4.out.stays hk.1).cell i
          go_simp
          exact hK _ (Stays.refl _)
        intro KK hKK
        go_simp
        refine hKK _ ?_
        clear hKK KK
        apply wpFree_pure rfl rfl
        · intro vs wx hk K hK
          have c2' := fun i => (V2.out.stays hk.1).cell i
          go_simp
          exact hK _ (Stays.refl _)
        intro KK hKK
        go_simp
        refine hKK _ ?_
        clear hKK KK
        apply wpFree_pure rfl rfl
        · intro vs wx hk K hK
          have CL := leg_any id run tm st dn flt raw (some ⟨g2, 0, none⟩) ls.length c2 ls dest w6.heap.size wx (LG.out.below hk.1) hk.1.size (by unfold maxLen; omega)
          rw [HK2.out] at CL
          go_simp
          first
            | exact hK _ (Stays.refl _)
            | exact Calls.free hK CL
        intro KK hKK
        go_simp
        refine hKK _ ?_
        clear hKK KK
        apply wpFree_pure rfl rfl
        · intro vs wx hk K hK
          go_simp
          exact hK _ (Stays.refl _)
        intro KK hKK
        go_simp
        refine hKK _ ?_
        clear hKK KK
        apply wpFree_pure rfl rfl
        · intro vs wx hk K hK
          go_simp
          exact hK _ (Stays.refl _)
        intro KK hKK
        go_simp
        refine hKK _ ?_
        clear hKK KK
        refine wpFree_nil ?_
        intro vs5 w7 hs7 _
        intro KK3 hKK3
        simp only [List.drop_succ_cons, List.drop_nil]
        have B7 := Lib.hid (bt' B66.out hs7)
        have U3 := Lib.hid (V3.out.stays hs7)
        have U4 := Lib.hid (V4.out.stays hs7)
        have U14 := Lib.hid (K14.out.stays hs7)
        have OW7 := Lib.hid (OW6.out.stays hs7)
        have hz7 : w4.heap.size ≤ w7.heap.size := Nat.le_trans hz6 hs7.size
        clear hs7
        obtain ⟨e0, e1, e2, e3, e4, e5⟩ := OW7.out.legIn HL.out
        have fz := fun j => World.ownsRow.frozenAt OW7.out j
        have hbt : -9223372036854775808 ≤ l.tries ∧ l.tries ≤ 9223372036854775807 := by
          have := bounds_i64 hwt
          omega
        go_wp2_with fail
        refine (add_any l.tries 1 _ hbt.1 hbt.2 (by omega) (by omega)).mono ?_
        rintro x w8 ⟨rfl, rfl⟩
        go_wp2_with fail
        have HCL := Lib.hid (show reply.extract 0 (min (reply.size : Int) 200).toNat = P.clip reply from by unfold P.clip; congr 1; omega)
        have own8 := OW7.out.put (l' := { l with tries := P.add l.tries 1 }) (j := 2) (u := .int .i64 (P.add l.tries 1)) rfl HL.out rfl (by omega)
        have HL8 := Lib.hid (show (ls.set k { l with tries := P.add l.tries 1 })[k]? = some { l with tries := P.add l.tries 1 } from by rw [List.getElem?_set_self (by omega)])
        have W8 := Lib.hid (B7.out.setCell (p := ⟨g2, k * 6 + 2, none⟩) (by simp; omega) (.int .i64 (P.add l.tries 1)))
        have R3 := Lib.hid (U3.out.far (p := ⟨g2, k * 6 + 2, none⟩) (by simp; omega) (.int .i64 (P.add l.tries 1)))
        have R4 := Lib.hid (U4.out.far (p := ⟨g2, k * 6 + 2, none⟩) (by simp; omega) (.int .i64 (P.add l.tries 1)))
        have R14 := Lib.hid (U14.out.far (p := ⟨g2, k * 6 + 2, none⟩) (by simp; omega) (.int .i64 (P.add l.tries 1)))
        have O8 := Lib.hid own8
        clear e0 e1 e2 e3 e4 e5 fz own8
        refine (stringsClone_any _ _ (by rw [HCL.out]; unfold P.clip; simp; omega)).mono ?_
        rintro x w8 ⟨rfl, hb8⟩
        rw [HCL.out]
        have S3 := Lib.hid (R3.out.below hb8 R3.out.lt)
        have S4 := Lib.hid (R4.out.below hb8 R4.out.lt)
        have S14 := Lib.hid (R14.out.below hb8 R14.out.lt)
        have O9 := Lib.hid (O8.out.below hb8 (Nat.le_refl _))
        have W9 := Lib.hid (bt'' W8.out hb8)
        have hz8 : w4.heap.size ≤ w8.heap.size := by have := hb8.size; simp at this; omega
        clear hb8
        obtain ⟨e0, e1, e2, e3, e4, e5⟩ := O9.out.legIn HL8.out
        have fz := fun j => O9.out.frz (by rw [List.length_set]) j
        have c14 := fun i => S14.out.cell i
        go_wp2_with fail
        have own9 := O9.out.put (l' := P.touch l reply) (j := 5) (u := .string (P.clip reply)) (by rw [List.length_set]) HL8.out rfl (by omega)
        rw [List.set_set] at own9
        have HL9 := Lib.hid (show (ls.set k (P.touch l reply))[k]? = some (P.touch l reply) from by rw [List.getElem?_set_self (by omega)])
        obtain ⟨q0, q1, q2, q3, q4, q5⟩ := own9.legIn HL9.out
        have fz9 := fun j => own9.frz (by rw [List.length_set]) j
        have own10 := own9.put (l' := { P.touch l reply with status := 3 }) (j := 1) (u := .int .i64 3) (by rw [List.length_set]) HL9.out rfl (by omega)
        rw [List.set_set] at own10
        have hl10 : (ls.set k { P.touch l reply with status := 3 })[k]? = some { P.touch l reply with status := 3 } := by rw [List.getElem?_set_self (by omega)]
        have own11 := own10.put (l' := P.sentLeg (P.touch l reply)) (j := 3) (u := .int .i64 0) (by rw [List.length_set]) hl10 rfl (by omega)
        rw [List.set_set] at own11
        have O11 := Lib.hid (own11.alloc (.cells #[.string d'.name, .int .i64 d'.chain, .bool d'.file, .int .i64 d'.port, .string d'.dir, .int .i64 d'.retry, .int .i64 d'.backoff, .int .i64 d'.timeout, .string d'.response] 67))
        have W11 := Lib.hid ((((W9.out.setCell (p := ⟨g2, k * 6 + 5, none⟩) (by simp; omega) (.string (P.clip reply))).setCell (p := ⟨g2, k * 6 + 1, none⟩) (by simp; omega) (.int .i64 3)).setCell (p := ⟨g2, k * 6 + 3, none⟩) (by simp; omega) (.int .i64 0)).alloc (by simp; omega) (.cells #[.string d'.name, .int .i64 d'.chain, .bool d'.file, .int .i64 d'.port, .string d'.dir, .int .i64 d'.retry, .int .i64 d'.backoff, .int .i64 d'.timeout, .string d'.response] 67))
        have T3 := Lib.hid ((((S3.out.far (p := ⟨g2, k * 6 + 5, none⟩) (by simp; omega) (.string (P.clip reply))).far (p := ⟨g2, k * 6 + 1, none⟩) (by simp; omega) (.int .i64 3)).far (p := ⟨g2, k * 6 + 3, none⟩) (by simp; omega) (.int .i64 0)).alloc (.cells #[.string d'.name, .int .i64 d'.chain, .bool d'.file, .int .i64 d'.port, .string d'.dir, .int .i64 d'.retry, .int .i64 d'.backoff, .int .i64 d'.timeout, .string d'.response] 67))
        have T4 := Lib.hid ((((S4.out.far (p := ⟨g2, k * 6 + 5, none⟩) (by simp; omega) (.string (P.clip reply))).far (p := ⟨g2, k * 6 + 1, none⟩) (by simp; omega) (.int .i64 3)).far (p := ⟨g2, k * 6 + 3, none⟩) (by simp; omega) (.int .i64 0)).alloc (.cells #[.string d'.name, .int .i64 d'.chain, .bool d'.file, .int .i64 d'.port, .string d'.dir, .int .i64 d'.retry, .int .i64 d'.backoff, .int .i64 d'.timeout, .string d'.response] 67))
        refine (sent1_any g2 (k * 6) d' _ _ _ _ (by simp; omega) q1 q3 fz9 _ _ rfl rfl).mono ?_
        rintro x w9 ⟨rfl, rfl⟩
        clear e0 e1 e2 e3 e4 e5 fz c14 q0 q1 q2 q3 q4 q5 fz9 own9 own10 own11 hl10
        generalize ((((w8.setCell ⟨g2, k * 6 + 5, none⟩ (.string (P.clip reply))).setCell ⟨g2, k * 6 + 1, none⟩ (.int .i64 3)).setCell ⟨g2, k * 6 + 3, none⟩ (.int .i64 0)).alloc (.cells #[.string d'.name, .int .i64 d'.chain, .bool d'.file, .int .i64 d'.port, .string d'.dir, .int .i64 d'.retry, .int .i64 d'.backoff, .int .i64 d'.timeout, .string d'.response] 67)) = w9 at *
        have LG9 := Lib.hid (show LegsAt w9 w9.heap.size (some ⟨g2, 0, none⟩) ls.length (ls.set k (P.sentLeg (P.touch l reply))) from O11.out.legsAt (by rw [List.length_set]))
        have c4 := fun i => T4.out.cell i
        go_wp2_with fail
        refine (terminal_any id run tm st dn flt raw (some ⟨g2, 0, none⟩) ls.length c2 (ls.set k (P.sentLeg (P.touch l reply))) w9.heap.size w9 LG9.out (Nat.le_refl _) (by unfold maxLen; omega)).mono ?_
        rintro x w10 ⟨rfl, hb10⟩
        have P3 := Lib.hid (T3.out.below hb10 T3.out.lt)
        have P4 := Lib.hid (T4.out.below hb10 T4.out.lt)
        have O12 := Lib.hid (O11.out.below hb10 (Nat.le_refl _))
        have W12 := Lib.hid (bt'' W11.out hb10)
        clear hb10 c4
        have c4 := fun i => P4.out.cell i
        have f4 := fun i => P4.out.frozen i
        have c3 := fun i => P3.out.cell i
        have f3 := fun i => P3.out.frozen i
        have key : (P.terminal st (ls.set k (P.sentLeg (P.touch l reply))) = true ∧ (dn == -1) = true ∧ P.doneOf st ds ls (P.turned P.sentLeg st ds ls dest reply) dest dn now = now) ∨ (P.terminal st (ls.set k (P.sentLeg (P.touch l reply))) = true ∧ (dn == -1) = false ∧ P.doneOf st ds ls (P.turned P.sentLeg st ds ls dest reply) dest dn now = dn) ∨ (P.terminal st (ls.set k (P.sentLeg (P.touch l reply))) = false ∧ P.doneOf st ds ls (P.turned P.sentLeg st ds ls dest reply) dest dn now = dn) := by
          rw [HN2.out, HN.out]
          cases hT : P.terminal st (ls.set k (P.sentLeg (P.touch l reply)))
          · exact Or.inr (Or.inr ⟨rfl, by rw [if_neg (by simp)]⟩)
          · by_cases hdn : dn = -1
            · exact Or.inl ⟨rfl, by simp [hdn], by rw [if_pos ⟨rfl, hdn⟩]⟩
            · exact Or.inr (Or.inl ⟨rfl, by simpa using hdn, by rw [if_neg (fun h => hdn h.2)]⟩)
        rcases key with ⟨t1, t2, t3⟩ | ⟨t1, t2, t3⟩ | ⟨t1, t3⟩
        all_goals
          have HN3 := Lib.hid t3
          clear t3
          go_wp2
          rw [HN3.out, HN.out]
          refine bodyPost_ret (v := .agg #[.int .i64 id, .int .i64 run, .int .i64 tm, .int .i64 st, .int .i64 _, .string raw, .int .i64 flt, .slice (some ⟨g2, 0, none⟩) ls.length c2]) (by simp [results, Tryz.results33, go_sem, c3]) rfl ⟨_, rfl, ?_, ?_⟩
          · refine OwnL.less (B := w.heap.size + 4) ?_ (by omega)
            repeat (refine OwnL.far2 ?_ (by simp; omega) _)
            exact O12.out
          · repeat (refine Below.setCell ?_ (by simp; omega) _)
            exact W12.out
end Go.Proofs.YtemjipongehjlaaGreat
