/- What prune.Failed returns. -/
import Derived.Test.YtemjipongehjlaaGreatL8
import Derived.Test.YtemjipongehjlaaGreatL5
import Derived.Laws.StructEq
import Derived.Test.YtemjipongehjlaaGreatL1
namespace Go.Proofs.YtemjipongehjlaaGreat
set_option linter.unusedVariables false
open Go.RowKit Go.BigFrame
set_option maxRecDepth 100000 in
set_option maxHeartbeats 4000000 in
theorem failed1_any (cn cd cpre cfil ctr : ByteArray) (cf : Bool) (cpt crt : Int) (D : Option Addr) (n dc : Nat) (ds : List P.Dest) (id run tm st dn flt : Int) (raw : ByteArray) (g m cp k rb cb : Nat) (ls : List P.Leg) (l : P.Leg) (d : P.Dest) (Bo B : Nat) (w : World)
    (hd : DestsAt w B D n ds) (hB : B ≤ w.heap.size) (hBg : B ≤ g) (hown : OwnL w Bo (.slice (some ⟨g, 0, none⟩) m cp) ls) (hlen : ls.length = m) (hl : ls[k]? = some l) (hr : Blk w rb 28 #[.int .i64 id, .int .i64 run, .int .i64 tm, .int .i64 st, .int .i64 dn, .string raw, .int .i64 flt, .slice (some ⟨g, 0, none⟩) m cp]) (hne : rb ≠ g) (hg : g < w.heap.size) (hn : n ≤ maxLen) (hm : m ≤ maxLen)
    (hc : Blk w cb 24 #[.string cn, .bool cf, .int .i64 cpt, .string cd, .string cpre, .string cfil, .string ctr, .slice D n dc, .int .i64 crt]) :
    Calls Tryz.prog 38 #[.pointer (some ⟨g, k * 6, none⟩), .agg #[.string d.name, .int .i64 d.chain, .bool d.file, .int .i64 d.port, .string d.dir, .int .i64 d.retry, .int .i64 d.backoff, .int .i64 d.timeout, .string d.response], .pointer (some ⟨rb, 0, none⟩), .pointer (some ⟨cb, 0, none⟩)] w fun e w' => e = .returned (.tuple #[]) ∧ OwnL w' Bo (.slice (some ⟨g, 0, none⟩) m cp) (P.failTurn ds ls k l d) ∧ w.grownBy w' (some g) := by
  have hs1 : Stays w (w.alloc (.cells #[.string d.name, .int .i64 d.chain, .bool d.file, .int .i64 d.port, .string d.dir, .int .i64 d.retry, .int .i64 d.backoff, .int .i64 d.timeout, .string d.response] 67)) := Stays.alloc w _
  have kd := Blk.new w 67 #[.string d.name, .int .i64 d.chain, .bool d.file, .int .i64 d.port, .string d.dir, .int .i64 d.retry, .int .i64 d.backoff, .int .i64 d.timeout, .string d.response]
  have FA := Lib.hid (fail_any cn cd cpre cfil ctr cf cpt crt D n dc ds id run tm st dn flt raw g m cp k rb ls l d Bo B _ (hd.below (hs1.mono hB)) (Nat.le_trans hB hs1.size) hBg (hown.stays hs1) hlen hl (hr.stays hs1) hne (Nat.lt_of_lt_of_le hg hs1.size) hn hm)
  have S1 := Lib.hid hs1
  have c0 := fun i => (hc.stays hs1).cell i
  have c1 := fun i => kd.cell i
  clear hd hown hlen hl hr hc hs1 kd
  unfold P.failTurn
  go_enter Tryz.func38, Tryz.ntmps38
  go_wp2_with fail
  refine FA.out.mono ?_
  rintro e w2 ⟨rfl, ho, hgr⟩
  have O2 := Lib.hid ho
  have G2 := Lib.hid ((S1.out.grown (some g)).trans hgr)
  clear ho hgr
  go_wp2
  go_end0
  exact ⟨rfl, O2.out, G2.out⟩
set_option maxRecDepth 100000 in
set_option maxHeartbeats 2000000 in
theorem failed_any (cn cd cpre cfil ctr : ByteArray) (cf : Bool) (cpt crt : Int) (D : Option Addr) (n dc : Nat) (ds : List P.Dest) (id run tm st dn flt : Int) (raw : ByteArray) (A : Option Addr) (m cp : Nat) (ls : List P.Leg) (dest reply : ByteArray) (now : Int) (B : Nat) (w : World)
    (h : LegsAt w B A m ls) (hd : DestsAt w B D n ds) (hB : B ≤ w.heap.size) (hm : m ≤ 1099511627776) (hn : n ≤ 1099511627776) (hw : ∀ d ∈ ds, (Lit.int .i64 d.chain).wf = true) (ht : ∀ l ∈ ls, (Lit.int .i64 l.tries).wf = true) (hr : reply.size ≤ maxLen) :
    Calls Tryz.prog 13 #[.agg #[.string cn, .bool cf, .int .i64 cpt, .string cd, .string cpre, .string cfil, .string ctr, .slice D n dc, .int .i64 crt], .agg #[.int .i64 id, .int .i64 run, .int .i64 tm, .int .i64 st, .int .i64 dn, .string raw, .int .i64 flt, .slice A m cp], .string dest, .string reply, .int .i64 now] w (GivesR w id run tm st (P.doneOf st ds ls (P.movedTo (P.failTurn ds) st ds ls dest reply) dest dn now) flt raw (P.movedTo (P.failTurn ds) st ds ls dest reply)) := by
  have hb := (((Below.refl w.heap.size w).alloc (Nat.le_refl _) (.cells #[.string cn, .bool cf, .int .i64 cpt, .string cd, .string cpre, .string cfil, .string ctr, .slice D n dc, .int .i64 crt] 24)).alloc (by simp) (.cells #[.int .i64 id, .int .i64 run, .int .i64 tm, .int .i64 st, .int .i64 dn, .string raw, .int .i64 flt, .slice A m cp] 28)).alloc (by simp; omega) (.cells #[.int .i64 0, .int .i64 0, .int .i64 0, .int .i64 0, .int .i64 0, .string ⟨#[]⟩, .int .i64 0, .slice none 0 0] 28)
  have k0 := ((Blk.new w 24 #[.string cn, .bool cf, .int .i64 cpt, .string cd, .string cpre, .string cfil, .string ctr, .slice D n dc, .int .i64 crt]).alloc (.cells #[.int .i64 id, .int .i64 run, .int .i64 tm, .int .i64 st, .int .i64 dn, .string raw, .int .i64 flt, .slice A m cp] 28)).alloc (.cells #[.int .i64 0, .int .i64 0, .int .i64 0, .int .i64 0, .int .i64 0, .string ⟨#[]⟩, .int .i64 0, .slice none 0 0] 28)
  have k3 := Blk.new ((w.alloc (.cells #[.string cn, .bool cf, .int .i64 cpt, .string cd, .string cpre, .string cfil, .string ctr, .slice D n dc, .int .i64 crt] 24)).alloc (.cells #[.int .i64 id, .int .i64 run, .int .i64 tm, .int .i64 st, .int .i64 dn, .string raw, .int .i64 flt, .slice A m cp] 28)) 28 #[.int .i64 0, .int .i64 0, .int .i64 0, .int .i64 0, .int .i64 0, .string ⟨#[]⟩, .int .i64 0, .slice none 0 0]
  rw [show ((w.alloc (.cells #[.string cn, .bool cf, .int .i64 cpt, .string cd, .string cpre, .string cfil, .string ctr, .slice D n dc, .int .i64 crt] 24)).alloc (.cells #[.int .i64 id, .int .i64 run, .int .i64 tm, .int .i64 st, .int .i64 dn, .string raw, .int .i64 flt, .slice A m cp] 28)).heap.size = w.heap.size + 2 from by simp] at k3
  have hz : (((w.alloc (.cells #[.string cn, .bool cf, .int .i64 cpt, .string cd, .string cpre, .string cfil, .string ctr, .slice D n dc, .int .i64 crt] 24)).alloc (.cells #[.int .i64 id, .int .i64 run, .int .i64 tm, .int .i64 st, .int .i64 dn, .string raw, .int .i64 flt, .slice A m cp] 28)).alloc (.cells #[.int .i64 0, .int .i64 0, .int .i64 0, .int .i64 0, .int .i64 0, .string ⟨#[]⟩, .int .i64 0, .slice none 0 0] 28)).heap.size = w.heap.size + 3 := by simp
  obtain ⟨w0, hw0⟩ : ∃ w0, w0 = (((w.alloc (.cells #[.string cn, .bool cf, .int .i64 cpt, .string cd, .string cpre, .string cfil, .string ctr, .slice D n dc, .int .i64 crt] 24)).alloc (.cells #[.int .i64 id, .int .i64 run, .int .i64 tm, .int .i64 st, .int .i64 dn, .string raw, .int .i64 flt, .slice A m cp] 28)).alloc (.cells #[.int .i64 0, .int .i64 0, .int .i64 0, .int .i64 0, .int .i64 0, .string ⟨#[]⟩, .int .i64 0, .slice none 0 0] 28)) := ⟨_, rfl⟩
  have hturn : Turns 38 #[.pointer (some ⟨w.heap.size, 0, none⟩)] (P.failTurn ds) id run tm st dn flt raw ds ls reply w0 := by
    rw [← hw0] at hb k0 hz
    intro W g k rb c2 l d Bo hW ho hl hdm hrb hg0 hne hg
    have hkl : k < ls.length := by
      rcases Nat.lt_or_ge k ls.length with h1 | h1
      · exact h1
      · rw [List.getElem?_eq_none h1] at hl; cases hl
    have hb2 : Below w.heap.size w W := hb.trans (hW.mono hb.size)
    have hlm := h.len
    exact failed1_any cn cd cpre cfil ctr cf cpt crt D n dc ds id run tm st dn flt raw g ls.length c2 k rb w.heap.size (ls.set k (P.touch l reply)) (P.touch l reply) d Bo B W (hd.below (hb2.mono hB)) (Nat.le_trans hB hb2.size) (by omega) ho (by rw [List.length_set]) (by rw [List.getElem?_set_self hkl]) hrb hne hg (by unfold maxLen; omega) (by unfold maxLen; omega) (k0.below hW (by omega))
  have KC := Lib.hid (moved_any 38 #[.pointer (some ⟨w.heap.size, 0, none⟩)] (P.failTurn ds) cn cd cpre cfil ctr cf cpt crt D n dc ds id run tm st dn flt raw A m cp ls dest reply now B w0 (hw0 ▸ h.below (hb.mono hB)) (hw0 ▸ hd.below (hb.mono hB)) (hw0 ▸ Nat.le_trans hB hb.size) hm hn hw ht hr (fun args w => rfl) hturn)
  have HB := Lib.hid hb
  have K3 := Lib.hid k3
  have HZ := Lib.hid hz
  rw [hw0] at KC
  clear h hd hw ht k0 k3 hb hz hturn hw0 w0
  generalize P.doneOf st ds ls (P.movedTo (P.failTurn ds) st ds ls dest reply) dest dn now = dn2 at *
  generalize P.movedTo (P.failTurn ds) st ds ls dest reply = ls2 at *
  go_enter Tryz.func13, Tryz.ntmps13
  go_wp2_with fail
  refine KC.out.mono ?_
  rintro x w2 ⟨v, rfl, hown, hb2⟩
  obtain ⟨A2, c2, rfl, -⟩ := hown.reads
  rw [HZ.out] at hown
  have c3 := fun i => (K3.out.below hb2 K3.out.lt).cell i
  have f3 := fun i => (K3.out.below hb2 K3.out.lt).frozen i
  have B2 := Lib.hid (HB.out.trans (hb2.mono HB.out.size))
  have OW := Lib.hid hown
  clear hb2 hown
  go_wp2
  refine bodyPost_ret (v := .agg #[.int .i64 id, .int .i64 run, .int .i64 tm, .int .i64 st, .int .i64 dn2, .string raw, .int .i64 flt, .slice A2 ls2.length c2]) (by simp [results, Tryz.results13, go_sem, c3]) rfl ⟨_, rfl, ?_, ?_⟩
  · refine OwnL.less (B := w.heap.size + 3) ?_ (by omega)
    repeat (refine OwnL.far ?_ (by simp) _)
    exact OW.out
  · repeat (refine Below.setCell ?_ (by simp; omega) _)
    exact B2.out
end Go.Proofs.YtemjipongehjlaaGreat
/- A region that draws its order, as in XFree; beside that, of the operations in F, which make new blocks, the values are all different. Plain; no conditions. -/
namespace Go.Proofs.YtemjipongehjlaaGreat
set_option linter.unusedVariables false
open Go Go.RowKit
/-- A pointer to a block that is not yet there, and to one that is there. -/
def freshV (v : Value) (w : World) : Prop := ∃ g, v = .pointer (some ⟨g, 0, none⟩) ∧ w.heap.size ≤ g
def oldV (v : Value) (w : World) : Prop := ∃ g, v = .pointer (some ⟨g, 0, none⟩) ∧ g < w.heap.size
def Apart (F : List Nat) (n : Nat) (vs : Nat → Value) : Prop := ∀ i j, F.contains i = true → F.contains j = true → i < n → j < n → i ≠ j → vs i ≠ vs j
section
variable (P : Program) (ops : Array Oper) (R : World → World → Prop) (B : Nat → Option (Value → World → Prop)) (late : List Nat) (w0 : World) (F : List Nat)
def wpFree2 (n : Nat) (Q : Act → World → Prop) : List Oper → Nat → ((Nat → Value) → Act) → Prop
  | [], _, A => ∀ vs w, R w0 w → (∀ j φ, j < n → B j = some φ → φ (vs j) w) → Apart F n vs → Q (A vs) w
  | o :: rest, k, A => match B k with
    | none => ∃ v, ((late.contains k = false ∧ ∀ vs w, knownF ops R B w0 k vs w → ∀ K : Value → World → Prop, (∀ w', R w w' → K v w') → stepF P ops o (A vs) w K) ∨ (late.contains k = true ∧ ∀ vs w, (execOp (A vs).eval o).run P w = .ok (.value v) w)) ∧ wpFree2 n Q rest (k + 1) (fun vs => (A vs).put o.dst v)
    | some φ => (∀ vs w, knownF ops R B w0 k vs w → ∀ K : Value → World → Prop, (∀ v w', R w w' → φ v w' → (F.contains k = true → freshV v w) → K v w') → stepF P ops o (A vs) w K) ∧ wpFree2 n Q rest (k + 1) (fun vs => (A vs).put o.dst (vs k))
end
section
variable {P : Program} {ops : Array Oper} {R : World → World → Prop} {B : Nat → Option (Value → World → Prop)} {late : List Nat} {w0 : World} {n : Nat} {F : List Nat}
/-- The walk's own words, all at once. -/
structure StepsF2 (P : Program) (ops : Array Oper) (R : World → World → Prop) (B : Nat → Option (Value → World → Prop)) (late : List Nat) (w0 : World) (F : List Nat) (n : Nat) (Q : Act → World → Prop) (a : Act) (c : Nat → Value) (k : Nat) : Prop where
  pure : ∀ i o, k ≤ i → i < n → ops[i]? = some o → late.contains i = true → B i = none → ∀ vs w, (execOp (textF ops B a c vs i).eval o).run P w = .ok (.value (c i)) w
  step : ∀ i o, k ≤ i → i < n → ops[i]? = some o → (late.contains i = false ∨ (B i).isSome = true) → ∀ vs w, knownF ops R B w0 i vs w → stepF P ops o (textF ops B a c vs i) w fun v w' => R w w' ∧ (∀ φ, B i = some φ → φ v w') ∧ (B i = none → v = c i) ∧ (F.contains i = true → freshV v w)
  last : ∀ vs w, R w0 w → (∀ j φ, j < n → B j = some φ → φ (vs j) w) → Apart F n vs → Q (textF ops B a c vs n) w
theorem steps_of2 (hFB : ∀ i, F.contains i = true → (B i).isSome = true) {Q : Act → World → Prop} {a : Act} : ∀ (l : List Oper) (k : Nat) (A : (Nat → Value) → Act) (c : Nat → Value), (∀ j, j < l.length → l[j]? = ops[k + j]?) → k + l.length = n → (∀ vs, A vs = textF ops B a c vs k) →
    wpFree2 P ops R B late w0 F n Q l k A → ∃ c', (∀ j, j < k → c' j = c j) ∧ StepsF2 P ops R B late w0 F n Q a c' k
  | [], k, A, c, _, hk, hA, h => ⟨c, fun _ _ => rfl, fun i o h1 h2 => by simp at hk; omega, fun i o h1 h2 => by simp at hk; omega, fun vs w hr hj ha => by
      have : k = n := by simpa using hk
      subst this
      rw [← hA]
      exact h vs w hr hj ha⟩
  | o :: l, k, A, c, hl, hk, hA, h => by
    have h0 : ops[k]? = some o := by simpa using (hl 0 (by simp)).symm
    have hl' : ∀ j, j < l.length → l[j]? = ops[k + 1 + j]? := fun j hj => by have := hl (j + 1) (by simp; omega); simpa [Nat.add_assoc, Nat.add_comm 1 j] using this
    have hk' : k + 1 + l.length = n := by simp at hk; omega
    unfold wpFree2 at h
    cases hB : B k with
    | none =>
      simp only [hB] at h
      obtain ⟨v, h1, h2⟩ := h
      let c1 : Nat → Value := fun j => if j = k then v else c j
      have hA1 : ∀ vs, (A vs).put o.dst v = textF ops B a c1 vs (k + 1) := fun vs => by
        unfold textF
        rw [hA, textF_congr (c := c1) (c' := c) k (fun j hj => by simp [c1]; omega)]
        simp [h0, valF, hB, c1]
      obtain ⟨c2, hc2, hs⟩ := steps_of2 hFB l (k + 1) _ c1 hl' hk' hA1 h2
      refine ⟨c2, fun j hj => by rw [hc2 j (by omega)]; simp [c1]; omega, fun i oi hi hin hoi hla hBi vs w => ?_, fun i oi hi hin hoi hla vs w hkn => ?_, hs.last⟩
      · by_cases hik : i = k
        · subst hik
          have : oi = o := Option.some.inj (hoi.symm.trans h0)
          subst this
          rw [textF_congr (c := c2) (c' := c) i (fun j hj => by rw [hc2 j (by omega)]; simp [c1]; omega), ← hA]
          rcases h1 with ⟨hn, _⟩ | ⟨_, h1⟩
          · rw [hla] at hn; cases hn
          · rw [h1 vs w, hc2 i (by omega)]; simp [c1]
        · exact hs.pure i oi (by omega) hin hoi hla hBi vs w
      by_cases hik : i = k
      · subst hik
        have : oi = o := Option.some.inj (hoi.symm.trans h0)
        subst this
        rw [textF_congr (c := c2) (c' := c) i (fun j hj => by rw [hc2 j (by omega)]; simp [c1]; omega), ← hA]
        rcases h1 with ⟨_, h1⟩ | ⟨hn, _⟩
        · refine h1 vs w hkn _ fun w' hr => ⟨hr, (fun φ hφ => by rw [hB] at hφ; cases hφ), (fun _ => by rw [hc2 i (by omega)]; simp [c1]), fun hF => by have := hFB i hF; rw [hB] at this; cases this⟩
        · rcases hla with hla | hla
          · rw [hn] at hla; cases hla
          · rw [hB] at hla; cases hla
      · exact hs.step i oi (by omega) hin hoi hla vs w hkn
    | some φ =>
      simp only [hB] at h
      obtain ⟨h1, h2⟩ := h
      have hA1 : ∀ vs, (A vs).put o.dst (vs k) = textF ops B a c vs (k + 1) := fun vs => by
        unfold textF
        rw [hA]
        simp [h0, valF, hB]
      obtain ⟨c2, hc2, hs⟩ := steps_of2 hFB l (k + 1) _ c hl' hk' hA1 h2
      refine ⟨c2, fun j hj => hc2 j (by omega), fun i oi hi hin hoi hla hBi vs w => ?_, fun i oi hi hin hoi hla vs w hkn => ?_, hs.last⟩
      · by_cases hik : i = k
        · subst hik
          rw [hB] at hBi; cases hBi
        · exact hs.pure i oi (by omega) hin hoi hla hBi vs w
      by_cases hik : i = k
      · subst hik
        have : oi = o := Option.some.inj (hoi.symm.trans h0)
        subst this
        rw [textF_congr (c := c2) (c' := c) i (fun j hj => hc2 j (by omega)), ← hA]
        refine h1 vs w hkn _ fun v w' hr hp hfr => ⟨hr, fun ψ hψ => ?_, (fun hn => by rw [hB] at hn; cases hn), hfr⟩
        rw [hB] at hψ
        cases hψ
        exact hp
      · exact hs.step i oi (by omega) hin hoi hla vs w hkn

theorem apart_set {a a' : Act} {c vs : Nat → Value} {listed : Array Bool} {w' : World} {i : Nat} {v : Value} (hap : ∀ i j, F.contains i = true → F.contains j = true → i < n → j < n → i ≠ j → listed.getD i false = true → listed.getD j false = true → vs i ≠ vs j)
    (hfr : F.contains i = true → freshV v w') (hFφ : ∀ i φ v w, F.contains i = true → B i = some φ → φ v w → oldV v w) (hFB : ∀ i, F.contains i = true → (B i).isSome = true) (inv : InvF ops R B w0 n a c vs listed a' w') :
    ∀ x y, F.contains x = true → F.contains y = true → x < n → y < n → x ≠ y → (listed.setIfInBounds i true).getD x false = true → (listed.setIfInBounds i true).getD y false = true → (fun j => if j = i then v else vs j) x ≠ (fun j => if j = i then v else vs j) y := by
  have hold : ∀ j, j ≠ i → (listed.setIfInBounds i true).getD j false = true → listed.getD j false = true := fun j hj h => by rwa [getD_set_ne false (Ne.symm hj)] at h
  have hne : ∀ y, F.contains i = true → F.contains y = true → y < n → y ≠ i → listed.getD y false = true → v ≠ vs y := fun y hi hy hyn hyi hly => by
    obtain ⟨g, rfl, hg⟩ := hfr hi
    obtain ⟨φ, hφ⟩ := Option.isSome_iff_exists.1 (hFB y hy)
    obtain ⟨g', hv, hg'⟩ := hFφ y φ _ _ hy hφ (inv.facts y φ hyn hφ hly)
    rw [hv]
    intro e
    cases e
    omega
  intro x y hx hy hxn hyn hxy hlx hly
  by_cases h1 : x = i
  · subst h1
    have h2 : y ≠ x := Ne.symm hxy
    simp only [h2, if_true, if_false]
    exact hne y hx hy hyn h2 (hold y h2 hly)
  · by_cases h2 : y = i
    · subst h2
      simp only [h1, if_true, if_false]
      exact Ne.symm (hne x hy hx hxn h1 (hold x h1 hlx))
    · simp only [h1, h2, if_false]
      exact hap x y hx hy hxn hyn hxy (hold x h1 hlx) (hold y h2 hly)
theorem any_free2 {a : Act} {c : Nat → Value} {Q : Act → World → Prop} {Q' : Exit → Act → World → Prop} (hf : Free ops late n) (htr : ∀ {x y z}, R x y → R y z → R x z) (hst : ∀ j φ v x y, B j = some φ → φ v x → R x y → φ v y)
    (hFφ : ∀ i φ v w, F.contains i = true → B i = some φ → φ v w → oldV v w) (hFB : ∀ i, F.contains i = true → (B i).isSome = true) (hs : StepsF2 P ops R B late w0 F n Q a c 0) (hrefl : ∀ w, R w w) (hlB : ∀ i, late.contains i = true → B i = none) (hpan : ∀ c a d v w, Q' (.panic c) (Act.put a d v) w → Q' (.panic c) a w) (hQ : ∀ a w, Q a w → wpList P ops Q' (ops.toList.drop n) a w) :
    ∀ (u : Nat) (vs : Nat → Value) (listed : Array Bool) (a' : Act) (w' : World), leftF n listed = u → InvF ops R B w0 n a c vs listed a' w' → (∀ i j, F.contains i = true → F.contains j = true → i < n → j < n → i ≠ j → listed.getD i false = true → listed.getD j false = true → vs i ≠ vs j) → wpAny P .any ops Q' (u + (ops.size - n)) listed a' w'
  | 0, vs, listed, a', w', hu, inv, hap => by
    have hall : ∀ j, j < n → listed.getD j true = true := fun j hj => by
      have := List.countP_eq_zero.1 hu j (List.mem_range.2 hj)
      simpa using this
    have hall2 : ∀ j, j < n → listed.getD j false = true := fun j hj => by
      have h1 := hall j hj
      have h2 : j < listed.size := by rw [inv.head.size]; have := hf.le; omega
      simpa [h2] using h1
    have e1 : listed = Array.ofFn fun i : Fin ops.size => decide (i.val < n) := by
      apply Array.ext (by simp [inv.head.size])
      intro j h1 h2
      have hj : j < ops.size := by rw [← inv.head.size]; exact h1
      simp only [Array.getElem_ofFn]
      by_cases hjn : j < n
      · have := hall j hjn
        simpa [h1, hjn] using this
      · have := inv.head.tail j (by omega) hj
        simpa [h1, hjn] using this
    have e2 : a' = textF ops B a c vs n := by
      have hd := (textF_size (ops := ops) (B := B) (a := a) (c := c) (vs := vs) n).2
      have hz := (textF_size (ops := ops) (B := B) (a := a) (c := c) (vs := vs) n).1
      have ht : a'.tmps = (textF ops B a c vs n).tmps := by
        apply Array.ext_getElem?
        intro d
        by_cases hw : ∃ j o, j < n ∧ ops[j]? = some o ∧ o.dst = some d
        · obtain ⟨j, oj, hj, hoj, hdj⟩ := hw
          rcases Nat.lt_or_ge d a.tmps.size with hs | hs
          · rw [inv.slot j oj d hj hoj (hall2 j hj) hdj hs, textF_slot hf hoj hdj hs n hj (Nat.le_refl _)]
          · rw [Array.getElem?_eq_none (by rw [inv.size]; exact hs), Array.getElem?_eq_none (by rw [hz]; exact hs)]
        · rw [inv.other d fun j oj hj hoj _ hdj => hw ⟨j, oj, hj, hoj, hdj⟩, textF_other n fun j oj hj hoj hdj => hw ⟨j, oj, hj, hoj, hdj⟩]
      have hdd := inv.defers.trans hd.symm
      cases a'
      cases hx : textF ops B a c vs n
      rw [hx] at ht hdd
      simp only at ht hdd
      rw [ht, hdd]
    subst e2
    have hq := hQ _ _ (hs.last vs w' inv.world (fun j φ hj hφ => inv.facts j φ hj hφ (hall2 j hj)) fun i j hi hj hin hjn hij => hap i j hi hj hin hjn hij (hall2 i hin) (hall2 j hjn))
    have hlen : (ops.toList.drop n).length = ops.size - n := by simp
    have := wpAny_of_seq (md := .any) (Q' := Q') (ops.toList.drop n) n listed _ w' (fun j => by simp [List.getElem?_drop]) (by rw [hlen, e1]; exact hf.seq) hq
    rw [hlen] at this
    simpa using this
  | u + 1, vs, listed, a', w', hu, inv, hap => by
    rw [show u + 1 + (ops.size - n) = (u + (ops.size - n)) + 1 by omega]
    have hex : ∃ j, j < n ∧ listed.getD j true = false := by
      have : 0 < (List.range n).countP fun j => !listed.getD j true := by unfold leftF at hu; omega
      obtain ⟨j, hj, hp⟩ := List.countP_pos_iff.1 this
      exact ⟨j, List.mem_range.1 hj, by simpa using hp⟩
    have hsmall : ∀ d j, j ≤ d → j < n → listed.getD j true = false → ∃ i, i < n ∧ i ∈ Region.ready .any ops listed := by
      intro d
      induction d with
      | zero =>
        intro j hjd hj hun
        have hj0 : j = 0 := by omega
        subst hj0
        obtain ⟨oj, hoj⟩ : ∃ oj, ops[0]? = some oj := ⟨_, Array.getElem?_eq_getElem (by have := hf.le; omega)⟩
        exact ⟨0, hj, mem_ready.2 ⟨hun, oj, hoj, fun e he hb => by have := hf.after 0 oj hoj e he hb; omega⟩⟩
      | succ d ih =>
        intro j hjd hj hun
        obtain ⟨oj, hoj⟩ : ∃ oj, ops[j]? = some oj := ⟨_, Array.getElem?_eq_getElem (by have := hf.le; omega)⟩
        by_cases hall : ∀ e ∈ oj.after, Region.binds .any e = true → listed.getD e.on false = true
        · exact ⟨j, hj, mem_ready.2 ⟨hun, oj, hoj, hall⟩⟩
        · simp only [Classical.not_forall] at hall
          obtain ⟨e, he, hb, hno⟩ := hall
          have hlt := hf.after j oj hoj e he hb
          exact ih e.on (by omega) (by omega) (getD_in (by rw [inv.head.size]; have := hf.le; omega) (by simpa using hno))
    obtain ⟨j0, hj0, hun0⟩ := hex
    have hset : ∀ i, i < n → listed.getD i true = false → leftF n (listed.setIfInBounds i true) = u := fun i hin hun => by
      have hisl : i < listed.size := by rw [inv.head.size]; have := hf.le; omega
      have hc := cnt_set (fun j => !listed.getD j true) (fun j => !(listed.setIfInBounds i true).getD j true) i (fun j hj => by simp only [getD_set_ne true (Ne.symm hj)]) (by simp [hisl]) (by simp only [hun]; rfl) n hin
      unfold leftF at hu ⊢
      omega
    by_cases hlt : ∃ i, late.contains i = true ∧ B i = none ∧ i ∈ Region.ready .any ops listed
    · obtain ⟨i, hli, hBi, hr⟩ := hlt
      obtain ⟨hin, hfree, o, ho, hg⟩ := hf.late i hli
      have hun := (mem_ready.1 hr).1
      have hp := fun w => hs.pure i o (Nat.zero_le _) hin ho hli hBi vs w
      obtain ⟨e1, _⟩ := same_text hf inv hin ho hr
      have hy : Yields P ops o (c i) a' := .inl ⟨by simp [Region.wanted, hg], fun w => by rw [e1]; exact hp w⟩
      refine wpAny_first ho hf.sel (fun c a w => hpan c a _ _ w) _ listed a' w' (fun j oj hj hji huj hno => Region.free_spec ho hfree j oj hj hji (by
        have hjs := (Array.getElem?_eq_some_iff.1 hj).1
        have hw : Region.waitsFor .any ops i j = false := by
          cases hw : Region.waitsFor .any ops i j with
          | false => rfl
          | true =>
            obtain ⟨oi, hoi, e, he, hb, hon⟩ := Region.waitsFor_spec hw
            obtain ⟨_, o3, ho3, hall3⟩ := mem_ready.1 hr
            have : oi = o3 := Option.some.inj (hoi.symm.trans ho3)
            subst this
            have h4 := hall3 e he hb
            rw [hon, getD_both huj] at h4
            cases h4
        simp [hjs, hw]) hno) hr hy ?_
      exact any_free2 hf htr hst hFφ hFB hs hrefl hlB hpan hQ u (fun j => if j = i then c i else vs j) _ _ w' (hset i hin hun) (inv_set hf inv hin ho hr inv.world (fun j φ v hφ hp => hp) (fun φ hφ => by rw [hBi] at hφ; cases hφ) fun _ => rfl) (apart_set hap (fun hF => by have := hFB i hF; rw [hBi] at this; cases this) hFφ hFB inv)
    refine ⟨fun h0 => ?_, fun i hr => ?_⟩
    · obtain ⟨i, _, hi⟩ := hsmall j0 j0 (Nat.le_refl _) hj0 hun0
      rw [h0] at hi
      cases hi
    · obtain ⟨hun, o, ho, hall⟩ := mem_ready.1 hr
      have hisz : i < ops.size := (Array.getElem?_eq_some_iff.1 ho).1
      have hin : i < n := by
        rcases Nat.lt_or_ge i n with h | h
        · exact h
        · exfalso
          obtain ⟨hw1, hw2⟩ := hf.waits (by omega)
          have hin2 : i = n := by
            rcases Nat.lt_or_ge n i with h2 | h2
            · exfalso
              have h3 := List.all_eq_true.1 hw2 i (List.mem_range.2 hisz)
              simp only [Bool.or_eq_true, decide_eq_true_eq] at h3
              rcases h3 with h3 | h3
              · omega
              · obtain ⟨o', ho', e, he, hb, hon⟩ := Region.waitsFor_spec h3
                have : o' = o := Option.some.inj (ho'.symm.trans ho)
                subst this
                have h4 := hall e he hb
                rw [hon, getD_both (inv.head.tail (i - 1) (by omega) (by omega))] at h4
                cases h4
            · omega
          subst hin2
          obtain ⟨j, hj, hjr⟩ := hsmall j0 j0 (Nat.le_refl _) hj0 hun0
          have hjl : late.contains j = true := by
            cases hc : late.contains j with
            | true => rfl
            | false =>
              rcases needs_listed inv.head.closed (fun j' hw => by
                obtain ⟨o', ho', e, he, hb, hon⟩ := Region.waitsFor_spec hw
                have : o' = o := Option.some.inj (ho'.symm.trans ho)
                subst this
                rw [← hon]
                exact hall e he hb) _ j (hw1 j hj hc) with h4 | h4
              · omega
              · rw [getD_both (mem_ready.1 hjr).1] at h4
                cases h4
          cases hBj : B j with
          | none => exact hlt ⟨j, hjl, hBj, hjr⟩
          | some φ => exact absurd (hlB j hjl) (by simp [hBj])
      have hkn : knownF ops R B w0 i vs w' := ⟨inv.world, fun j φ hφ hwt => by
        obtain ⟨oi, hoi, e, he, hb, hon⟩ := Region.waitsFor_spec hwt
        have : oi = o := Option.some.inj (hoi.symm.trans ho)
        subst this
        have h1 := hall e he hb
        have h2 := hf.after i oi hoi e he hb
        rw [hon] at h1 h2
        exact inv.facts j φ (by omega) hφ h1⟩
      have hla : late.contains i = false ∨ (B i).isSome = true := by
        cases hc : late.contains i with
        | false => exact .inl rfl
        | true => exact absurd ⟨i, hc, hlB i hc, hr⟩ hlt
      have hstep := hs.step i o (Nat.zero_le _) hin ho hla vs w' hkn
      refine wpOp_mono (fun a2 w2 h2 => ?_) (op_of_step hf inv hin ho hr hstep)
      obtain ⟨v, rfl, hR, hB, hv, hfr⟩ := h2
      refine any_free2 hf htr hst hFφ hFB hs hrefl hlB hpan hQ u (fun j => if j = i then v else vs j) _ _ w2 (hset i hin hun) (inv_set hf inv hin ho hr (htr inv.world hR) (fun j φ v hφ hp => hst j φ v _ _ hφ hp hR) hB hv) (apart_set hap hfr hFφ hFB inv)
/-- The region, walked in the order of the text; the operations from n on in their forced order. -/
theorem wp_region_free2 {id : Nat} {Q : Exit → Act → World → Prop} {a : Act} {w : World} {l : List Oper} (n : Nat) (late : List Nat) (F : List Nat) (R : World → World → Prop) (B : Nat → Option (Value → World → Prop)) (hm : P.follows .mixedOrders = true) (hB : freeB l.toArray late n = true) (hrefl : ∀ w, R w w) (hlB : ∀ i, late.contains i = true → B i = none)
    (h0 : R w { w with drawn := w.drawn + 1 }) (htr : ∀ {x y z}, R x y → R y z → R x z) (hst : ∀ j φ v x y, B j = some φ → φ v x → R x y → φ v y)
    (hFφ : ∀ i φ v w, F.contains i = true → B i = some φ → φ v w → oldV v w) (hFB : ∀ i, F.contains i = true → (B i).isSome = true)
    (h : wpFree2 P l.toArray R B late w F n (fun a w => ∀ KK : Exit → Act → World → Prop, (∀ a w, Q .normal a w → KK .normal a w) → wpList P l.toArray KK (l.drop n) a w) (l.take n) 0 (fun _ => a)) : (Code.region id l.toArray true).wp P Q a w := by
  have hf := free_of hB
  have hln : n ≤ l.length := by simpa using hf.le
  obtain ⟨c, _, hs⟩ := steps_of2 hFB (ops := l.toArray) (n := n) (a := a) (l.take n) 0 (fun _ => a) (fun _ => undef) (fun j hj => by simp at hj; simp [hj]) (by simp; omega) (fun vs => rfl) h
  refine Code.wp_mono (Q := fun e a w => e = .normal ∧ Q e a w) (fun e a w h => h.2) ?_
  refine wp_region_any hm ?_
  have hu : leftF n (Array.replicate l.toArray.size false) = n := by
    unfold leftF
    have : ∀ j ∈ List.range n, (!(Array.replicate l.toArray.size false).getD j true) = true := fun j hj => by
      have := List.mem_range.1 hj
      simp [show j < l.length by omega]
    rw [List.countP_eq_length.2 this]
    simp
  have := any_free2 (F := F) (R := R) (B := B) (w0 := w) (c := c) (Q' := fun e a w => e = .normal ∧ Q e a w) hf htr hst hFφ hFB hs hrefl hlB (fun c a d v w h => by cases h.1) (fun a w hq => by simpa using hq _ fun a w h => ⟨rfl, h⟩) n (fun _ => undef) (Array.replicate l.toArray.size false) a { w with drawn := w.drawn + 1 } hu
    ⟨⟨by simp, fun j oj _ hl => (by rw [getD_replicate_false] at hl; cases hl), fun t _ ht => getD_in (by simpa using ht) (getD_replicate_false _ _)⟩, h0, fun j φ _ _ hl => (by rw [getD_replicate_false] at hl; cases hl), rfl, rfl, fun _ _ => rfl, fun j o d _ _ hl => (by rw [getD_replicate_false] at hl; cases hl)⟩ (fun i j _ _ _ _ _ hl => (by rw [getD_replicate_false] at hl; cases hl))
  rwa [show n + (l.toArray.size - n) = l.toArray.size by simp; omega] at this
theorem wpFree2_nil {Q : Act → World → Prop} {k : Nat} {A : (Nat → Value) → Act} (h : ∀ vs w, R w0 w → (∀ j φ, j < n → B j = some φ → φ (vs j) w) → Apart F n vs → Q (A vs) w) : wpFree2 P ops R B late w0 F n Q [] k A := h
theorem wpFree2_pure {Q : Act → World → Prop} {o : Oper} {rest : List Oper} {k : Nat} {A : (Nat → Value) → Act} {v : Value} (hB : B k = none) (hl : late.contains k = false)
    (h1 : ∀ vs w, knownF ops R B w0 k vs w → ∀ K : Value → World → Prop, (∀ w', R w w' → K v w') → stepF P ops o (A vs) w K)
    (h2 : ∀ KK : ((Nat → Value) → Act) → Prop, (∀ A', wpFree2 P ops R B late w0 F n Q rest (k + 1) A' → KK A') → KK (fun vs => (A vs).put o.dst v)) : wpFree2 P ops R B late w0 F n Q (o :: rest) k A := by
  unfold wpFree2
  simp only [hB]
  exact ⟨v, .inl ⟨hl, h1⟩, h2 _ fun _ h => h⟩
theorem wpFree2_late {Q : Act → World → Prop} {o : Oper} {rest : List Oper} {k : Nat} {A : (Nat → Value) → Act} {v : Value} (hB : B k = none) (hl : late.contains k = true)
    (h1 : ∀ vs w, ∀ K : Result Next → Prop, K (.ok (.value v) w) → K ((execOp (A vs).eval o).run P w))
    (h2 : ∀ KK : ((Nat → Value) → Act) → Prop, (∀ A', wpFree2 P ops R B late w0 F n Q rest (k + 1) A' → KK A') → KK (fun vs => (A vs).put o.dst v)) : wpFree2 P ops R B late w0 F n Q (o :: rest) k A := by
  unfold wpFree2
  simp only [hB]
  exact ⟨v, .inr ⟨hl, fun vs w => h1 vs w (· = _) rfl⟩, h2 _ fun _ h => h⟩
theorem wpFree2_fact {Q : Act → World → Prop} {o : Oper} {rest : List Oper} {k : Nat} {A : (Nat → Value) → Act} {φ : Value → World → Prop} (hB : B k = some φ)
    (h1 : ∀ vs w, knownF ops R B w0 k vs w → ∀ K : Value → World → Prop, (∀ v w', R w w' → φ v w' → (F.contains k = true → freshV v w) → K v w') → stepF P ops o (A vs) w K)
    (h2 : ∀ KK : ((Nat → Value) → Act) → Prop, (∀ A', wpFree2 P ops R B late w0 F n Q rest (k + 1) A' → KK A') → KK (fun vs => (A vs).put o.dst (vs k))) : wpFree2 P ops R B late w0 F n Q (o :: rest) k A := by
  unfold wpFree2
  simp only [hB]
  exact ⟨h1, h2 _ fun _ h => h⟩
end
end Go.Proofs.YtemjipongehjlaaGreat
/- A leg compared with itself; stores into blocks, told whole. Plain lemmas. -/
namespace Go.Proofs.YtemjipongehjlaaGreat
set_option linter.unusedVariables false
open Go Go.RowKit
theorem leg_held : Tryz.prog.stoodInHeld 69 = false := by kernel_rfl
theorem leg_fields : ∃ g0 g1 g2 g3 g4 g5 : Field, Tryz.prog.underlying 69 = some (.struct #[g0, g1, g2, g3, g4, g5]) ∧ (g0.type = 9 ∧ g0.offset = 0 ∧ (g0.name ≠ "_")) ∧ (g1.type = 3 ∧ g1.offset = 1 ∧ (g1.name ≠ "_")) ∧ (g2.type = 3 ∧ g2.offset = 2 ∧ (g2.name ≠ "_")) ∧ (g3.type = 3 ∧ g3.offset = 3 ∧ (g3.name ≠ "_")) ∧ (g4.type = 9 ∧ g4.offset = 4 ∧ (g4.name ≠ "_")) ∧ (g5.type = 9 ∧ g5.offset = 5 ∧ (g5.name ≠ "_")) :=
  ⟨_, _, _, _, _, _, Tryz.underlying69, ⟨rfl, rfl, by decide⟩, ⟨rfl, rfl, by decide⟩, ⟨rfl, rfl, by decide⟩, ⟨rfl, rfl, by decide⟩, ⟨rfl, rfl, by decide⟩, ⟨rfl, rfl, by decide⟩⟩
theorem neq_leg (l : P.Leg) (W : World) : (binOp .neq 69 (.agg #[.string l.name, .int .i64 l.status, .int .i64 l.tries, .int .i64 l.due, .string l.payload, .string l.reply]) (.agg #[.string l.name, .int .i64 l.status, .int .i64 l.tries, .int .i64 l.due, .string l.payload, .string l.reply])).run Tryz.prog W = .ok (.bool false) W := by
  obtain ⟨g0, g1, g2, g3, g4, g5, hu, ⟨t0, o0, n0⟩, ⟨t1, o1, n1⟩, ⟨t2, o2, n2⟩, ⟨t3, o3, n3⟩, ⟨t4, o4, n4⟩, ⟨t5, o5, n5⟩⟩ := leg_fields
  have hf : Tryz.prog.fieldsOf 69 = #[g0, g1, g2, g3, g4, g5] := by simp [Program.fieldsOf, hu]
  rw [run_neq_struct, run_equalIn_struct W 9999 _ _ _ (by rw [hu, hf]) leg_held, hf]
  simp [Op.eqFields, n0, n1, n2, n3, n4, n5, t0, t1, t2, t3, t4, t5, o0, o1, o2, o3, o4, o5, go_sem]
theorem Blk.set8 {w : World} {g0 : Nat} {t : TypeId} {a b c d e f g h a' b' c' d' e' f' g' h' : Value} (hk : Blk w g0 t #[a', b', c', d', e', f', g', h']) : Blk (w.setCells g0 0 [a, b, c, d, e, f, g, h]) g0 t #[a, b, c, d, e, f, g, h] := by
  have := (((((((hk.set_ 0 a).set_ 1 b).set_ 2 c).set_ 3 d).set_ 4 e).set_ 5 f).set_ 6 g).set_ 7 h
  simpa [World.setCells] using this
theorem OwnL.farCells {w : World} {B b : Nat} {v : Value} {l : List P.Leg} (h : OwnL w B v l) (hne : some b ≠ v.ownBlock) : ∀ (vs : List Value) (o : Nat), OwnL (w.setCells b o vs) B v l := fun vs => by
  induction vs generalizing w with
  | nil => exact fun _ => h
  | cons u vs ih =>
    intro o
    refine ih ?_ (o + 1)
    obtain ⟨h1, h2⟩ := h
    refine ⟨h1, ?_⟩
    rcases h2 with h2 | ⟨g', cap, cur, hv, hg, hh, r⟩
    · exact .inl h2
    · refine .inr ⟨g', cap, cur, hv, hg, ?_, r⟩
      rw [Below.heap_setCell _ _ _ _ (fun e => hne (by rw [hv]; exact congrArg some e.symm))]
      exact hh
theorem OwnL.ne_blk {w : World} {B g : Nat} {v : Value} {l : List P.Leg} {cs : Array Value} (h : OwnL w B v l) (k : Blk w g 28 cs) : some g ≠ v.ownBlock := own_blk_ne h k (by decide)
theorem OwnL.legs {w : World} {B m c : Nat} {A : Option Addr} {l : List P.Leg} (h : OwnL w B (.slice A m c) l) : LegsAt w w.heap.size A m l := by
  obtain ⟨A', c', hv, hl⟩ := h.reads
  injection hv with h1 h2 h3
  subst h1 h2
  exact hl
/-- A row of a call's own, as a value. -/
def RowIs (id run tm st dn flt : Int) (raw : ByteArray) (l : List P.Leg) (B : Nat) (v : Value) (w : World) : Prop := ∃ v0, v = .agg #[.int .i64 id, .int .i64 run, .int .i64 tm, .int .i64 st, .int .i64 dn, .string raw, .int .i64 flt, v0] ∧ OwnL w B v0 l
theorem RowIs.stays {id run tm st dn flt : Int} {raw : ByteArray} {l : List P.Leg} {B : Nat} {v : Value} {x y : World} (h : RowIs id run tm st dn flt raw l B v x) (k : Stays x y) : RowIs id run tm st dn flt raw l B v y := by
  obtain ⟨v0, h1, h2⟩ := h
  exact ⟨v0, h1, h2.stays k⟩
/-- A new row block. -/
def NewRow (B : Nat) (v : Value) (w : World) : Prop := ∃ g, v = .pointer (some ⟨g, 0, none⟩) ∧ B ≤ g ∧ Blk w g 28 #[.int .i64 0, .int .i64 0, .int .i64 0, .int .i64 0, .int .i64 0, .string ⟨#[]⟩, .int .i64 0, .slice none 0 0]
theorem NewRow.stays {B : Nat} {v : Value} {x y : World} (h : NewRow B v x) (k : Stays x y) : NewRow B v y := by
  obtain ⟨g, h1, h2, h3⟩ := h
  exact ⟨g, h1, h2, h3.stays k⟩
theorem NewRow.old {B : Nat} {v : Value} {w : World} (h : NewRow B v w) : oldV v w := by
  obtain ⟨g, h1, _, h3⟩ := h
  exact ⟨g, h1, h3.lt⟩
end Go.Proofs.YtemjipongehjlaaGreat
/- What may go next, told by two loops. No Go in sight. -/
namespace Go.Proofs.YtemjipongehjlaaGreat.P
set_option linter.unusedVariables false
/-- Is the leg at place i open, and none before it of its chain? -/
def mayAt (ds : List Dest) (ls : List Leg) (k : Nat) (d : Dest) (l : Leg) : Bool :=
  l.isOpen && !((List.range k).any fun j => match ds[j]?, ls[j]? with | some e, some x => e.chain == d.chain && x.isOpen | _, _ => false)
/-- What may go, from place k on. -/
def goFrom (ds : List Dest) (ls : List Leg) : Nat → Nat → List ByteArray
  | 0, k => []
  | f + 1, k => match ds[k]?, ls[k]? with
    | some d, some l => if mayAt ds ls k d l then d.name :: goFrom ds ls f (k + 1) else goFrom ds ls f (k + 1)
    | _, _ => []
/-- Each leg bears the name of the destination of its place, and the names are all different. -/
structure Lined (ds : List Dest) (ls : List Leg) : Prop where
  len : ls.length = ds.length
  same : ∀ (i : Nat) (d : Dest) (l : Leg), ds[i]? = some d → ls[i]? = some l → l.name.data.toList = d.name.data.toList
  apart : ∀ (i j : Nat) (d e : Dest), i < j → ds[i]? = some d → ds[j]? = some e → d.name.data.toList ≠ e.name.data.toList
theorem Lined.at_ {ds : List Dest} {ls : List Leg} (h : Lined ds ls) {k : Nat} {d : Dest} (hd : ds[k]? = some d) : ∃ l, ls[k]? = some l ∧ legAt ls d.name = some k := by
  have hk : k < ds.length := by
    rcases Nat.lt_or_ge k ds.length with h1 | h1
    · exact h1
    · rw [List.getElem?_eq_none h1] at hd; cases hd
  have hkl : k < ls.length := by rw [h.len]; exact hk
  refine ⟨ls[k], List.getElem?_eq_getElem hkl, ?_⟩
  unfold legAt
  rw [List.findIdx?_eq_some_iff_getElem]
  refine ⟨hkl, ?_, fun j hj => ?_⟩
  · have := h.same k d _ hd (List.getElem?_eq_getElem hkl)
    simpa using this
  · have hjd : j < ds.length := by omega
    have h1 := h.same j _ _ (List.getElem?_eq_getElem hjd) (List.getElem?_eq_getElem (by omega : j < ls.length))
    have h2 := h.apart j k _ _ hj (List.getElem?_eq_getElem hjd) hd
    simp only [Bool.not_eq_true, beq_eq_false_iff_ne]
    rw [h1]
    exact h2
/-- The chains that have an open leg before place k. -/
def Busy (ds : List Dest) (ls : List Leg) (k : Nat) (busy : List Int) : Prop :=
  ∀ c, busy.contains c = (List.range k).any fun j => match ds[j]?, ls[j]? with | some e, some x => e.chain == c && x.isOpen | _, _ => false
theorem nextGo_from {ds : List Dest} {ls : List Leg} (h : Lined ds ls) : ∀ (f k : Nat) (busy : List Int), k + f = ds.length → Busy ds ls k busy → nextGo ls (ds.drop k) busy = goFrom ds ls f k
  | 0, k, busy, hk, hb => by
    rw [List.drop_eq_nil_of_le (by omega)]
    rfl
  | f + 1, k, busy, hk, hb => by
    have hkd : k < ds.length := by omega
    have hd : ds[k]? = some ds[k] := List.getElem?_eq_getElem hkd
    obtain ⟨l, hl, ha⟩ := h.at_ hd
    rw [List.drop_eq_getElem_cons hkd, nextGo, goFrom, ha, hd]
    simp only [hl]
    have hbc := hb ds[k].chain
    by_cases ho : l.isOpen = true
    · have hb' : Busy ds ls (k + 1) (ds[k].chain :: busy) := fun c => by
        rw [List.range_succ, List.any_append, ← hb c]
        simp only [List.any_cons, List.any_nil, Bool.or_false, hd, hl, ho, Bool.and_true, List.contains_cons]
        rw [Bool.or_comm]
        congr 1
        exact Bool.beq_comm
      rw [if_pos ho, nextGo_from h f (k + 1) _ (by omega) hb']
      unfold mayAt
      rw [← hbc, ho]
      cases busy.contains ds[k].chain <;> simp
    · have hf : l.isOpen = false := by simpa using ho
      have hb' : Busy ds ls (k + 1) busy := fun c => by
        rw [List.range_succ, List.any_append, ← hb c]
        simp [hd, hl, hf]
      rw [if_neg ho, nextGo_from h f (k + 1) _ (by omega) hb']
      unfold mayAt
      rw [hf]
      simp
theorem nextGo_lined {ds : List Dest} {ls : List Leg} (h : Lined ds ls) : nextGo ls ds [] = goFrom ds ls ds.length 0 := by
  have := nextGo_from h ds.length 0 [] (by omega) (fun c => by simp)
  simpa using this
end Go.Proofs.YtemjipongehjlaaGreat.P
