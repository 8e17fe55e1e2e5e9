/- A region that draws its order: one walk in the order of the text, over an invariant that knows which operations have run, what they yielded, and the world. Plain; no conditions. -/
import Derived.Test.YtjbhlojfmcldjabFree
namespace Go.Proofs.Ytjbhlojfmcldjab
set_option linter.unusedVariables false
open Go Go.RowKit
def upd (L : Nat → Bool) (i : Nat) : Nat → Bool := fun j => if j = i then true else L j
def updv (vs : Nat → Value) (i : Nat) (v : Value) : Nat → Value := fun j => if j = i then v else vs j
/-- All that operation k waits for has run. -/
def Rdy (ops : Array Oper) (k : Nat) (L : Nat → Bool) : Prop := ∀ j, Region.waitsFor .any ops k j = true → L j = true
/-- The operations in F yield what the walk cannot tell ahead. -/
def BB (F : List Nat) : Nat → Option (Value → World → Prop) := fun k => if F.contains k = true then some (fun _ _ => True) else none
section
variable (P : Program) (ops : Array Oper) (I : (Nat → Bool) → (Nat → Value) → World → Prop) (F : List Nat)
def wpGen (n : Nat) (Q : Act → World → Prop) : List Oper → Nat → ((Nat → Value) → Act) → Prop
  | [], _, A => ∀ vs w, I (fun j => decide (j < n)) vs w → Q (A vs) w
  | o :: rest, k, A => if F.contains k = true
    then (∀ L vs w, I L vs w → Rdy ops k L → L k = false → ∀ K : Value → World → Prop, (∀ v w', I (upd L k) (updv vs k v) w' → K v w') → stepF P ops o (A vs) w K) ∧ wpGen n Q rest (k + 1) (fun vs => (A vs).put o.dst (vs k))
    else ∃ v, (∀ L vs w, I L vs w → Rdy ops k L → L k = false → ∀ K : Value → World → Prop, (∀ w', I (upd L k) (updv vs k v) w' → K v w') → stepF P ops o (A vs) w K) ∧ wpGen n Q rest (k + 1) (fun vs => (A vs).put o.dst v)
end
section
variable {P : Program} {ops : Array Oper} {I : (Nat → Bool) → (Nat → Value) → World → Prop} {F : List Nat} {n : Nat}
theorem BB_some {k : Nat} (h : F.contains k = true) : BB F k = some (fun _ _ => True) := by unfold BB; rw [if_pos h]
theorem BB_none {k : Nat} (h : F.contains k = false) : BB F k = none := by unfold BB; rw [if_neg (by rw [h]; simp)]
structure StepsG (P : Program) (ops : Array Oper) (I : (Nat → Bool) → (Nat → Value) → World → Prop) (F : List Nat) (n : Nat) (Q : Act → World → Prop) (a : Act) (c : Nat → Value) (k : Nat) : Prop where
  step : ∀ i o, k ≤ i → i < n → ops[i]? = some o → ∀ L vs w, I L vs w → Rdy ops i L → L i = false → stepF P ops o (textF ops (BB F) a c vs i) w fun v w' => I (upd L i) (updv vs i v) w' ∧ (F.contains i = false → v = c i)
  last : ∀ vs w, I (fun j => decide (j < n)) vs w → Q (textF ops (BB F) a c vs n) w
theorem steps_gen {Q : Act → World → Prop} {a : Act} : ∀ (l : List Oper) (k : Nat) (A : (Nat → Value) → Act) (c : Nat → Value), (∀ j, j < l.length → l[j]? = ops[k + j]?) → k + l.length = n → (∀ vs, A vs = textF ops (BB F) a c vs k) →
    wpGen P ops I F n Q l k A → ∃ c', (∀ j, j < k → c' j = c j) ∧ StepsG P ops I F n Q a c' k
  | [], k, A, c, _, hk, hA, h => ⟨c, fun _ _ => rfl, fun i o h1 h2 => by simp at hk; omega, fun vs w hi => by
      have : k = n := by simpa using hk
      subst this
      rw [← hA]
      exact h vs w hi⟩
  | o :: l, k, A, c, hl, hk, hA, h => by
    have h0 : ops[k]? = some o := by simpa using (hl 0 (by simp)).symm
    have hl' : ∀ j, j < l.length → l[j]? = ops[k + 1 + j]? := fun j hj => by have := hl (j + 1) (by simp; omega); simpa [Nat.add_assoc, Nat.add_comm 1 j] using this
    have hk' : k + 1 + l.length = n := by simp at hk; omega
    unfold wpGen at h
    cases hF : F.contains k with
    | false =>
      simp only [hF, Bool.false_eq_true, if_false] at h
      obtain ⟨v, h1, h2⟩ := h
      let c1 : Nat → Value := fun j => if j = k then v else c j
      have hA1 : ∀ vs, (A vs).put o.dst v = textF ops (BB F) a c1 vs (k + 1) := fun vs => by
        unfold textF
        rw [hA, textF_congr (c := c1) (c' := c) k (fun j hj => by simp [c1]; omega)]
        simp [h0, valF, BB_none hF, c1]
      obtain ⟨c2, hc2, hs⟩ := steps_gen l (k + 1) _ c1 hl' hk' hA1 h2
      refine ⟨c2, fun j hj => by rw [hc2 j (by omega)]; simp [c1]; omega, fun i oi hi hin hoi L vs w hI hR hL => ?_, hs.last⟩
      by_cases hik : i = k
      · subst hik
        have : oi = o := Option.some.inj (hoi.symm.trans h0)
        subst this
        rw [textF_congr (c := c2) (c' := c) i (fun j hj => by rw [hc2 j (by omega)]; simp [c1]; omega), ← hA]
        exact h1 L vs w hI hR hL _ fun w' hw => ⟨hw, fun _ => by rw [hc2 i (by omega)]; simp [c1]⟩
      · exact hs.step i oi (by omega) hin hoi L vs w hI hR hL
    | true =>
      simp only [hF, if_true] at h
      obtain ⟨h1, h2⟩ := h
      have hA1 : ∀ vs, (A vs).put o.dst (vs k) = textF ops (BB F) a c vs (k + 1) := fun vs => by
        unfold textF
        rw [hA]
        simp [h0, valF, BB_some hF]
      obtain ⟨c2, hc2, hs⟩ := steps_gen l (k + 1) _ c hl' hk' hA1 h2
      refine ⟨c2, fun j hj => hc2 j (by omega), fun i oi hi hin hoi L vs w hI hR hL => ?_, hs.last⟩
      by_cases hik : i = k
      · subst hik
        have : oi = o := Option.some.inj (hoi.symm.trans h0)
        subst this
        rw [textF_congr (c := c2) (c' := c) i (fun j hj => hc2 j (by omega)), ← hA]
        exact h1 L vs w hI hR hL _ fun v w' hw => ⟨hw, fun hn => by rw [hF] at hn; cases hn⟩
      · exact hs.step i oi (by omega) hin hoi L vs w hI hR hL
theorem any_gen {a : Act} {c : Nat → Value} {w0 : World} {Q : Act → World → Prop} {Q' : Exit → Act → World → Prop} (hf : Free ops [] n)
    (hs : StepsG P ops I F n Q a c 0) (hQ : ∀ a w, Q a w → wpList P ops Q' (ops.toList.drop n) a w) :
    ∀ (u : Nat) (vs : Nat → Value) (listed : Array Bool) (a' : Act) (w' : World), leftF n listed = u → InvF ops (fun _ _ => True) (BB F) w0 n a c vs listed a' w' → I (fun j => listed.getD j false) vs w' → wpAny P .any ops Q' (u + (ops.size - n)) listed a' w'
  | 0, vs, listed, a', w', hu, inv, hI => by
    have hall : ∀ j, j < n → listed.getD j true = true := fun j hj => by
      have := List.countP_eq_zero.1 hu j (List.mem_range.2 hj)
      simpa using this
    have hall2 : ∀ j, j < n → listed.getD j false = true := fun j hj => by
      have h1 := hall j hj
      have h2 : j < listed.size := by rw [inv.head.size]; have := hf.le; omega
      simpa [h2] using h1
    have e1 : listed = Array.ofFn fun i : Fin ops.size => decide (i.val < n) := by
      apply Array.ext (by simp [inv.head.size])
      intro j h1 h2
      have hj : j < ops.size := by rw [← inv.head.size]; exact h1
      simp only [Array.getElem_ofFn]
      by_cases hjn : j < n
      · have := hall j hjn
        simpa [h1, hjn] using this
      · have := inv.head.tail j (by omega) hj
        simpa [h1, hjn] using this
    have e2 : a' = textF ops (BB F) a c vs n := by
      have hd := (textF_size (ops := ops) (B := BB F) (a := a) (c := c) (vs := vs) n).2
      have hz := (textF_size (ops := ops) (B := BB F) (a := a) (c := c) (vs := vs) n).1
      have ht : a'.tmps = (textF ops (BB F) a c vs n).tmps := by
        apply Array.ext_getElem?
        intro d
        by_cases hw : ∃ j o, j < n ∧ ops[j]? = some o ∧ o.dst = some d
        · obtain ⟨j, oj, hj, hoj, hdj⟩ := hw
          rcases Nat.lt_or_ge d a.tmps.size with hs | hs
          · rw [inv.slot j oj d hj hoj (hall2 j hj) hdj hs, textF_slot hf hoj hdj hs n hj (Nat.le_refl _)]
          · rw [Array.getElem?_eq_none (by rw [inv.size]; exact hs), Array.getElem?_eq_none (by rw [hz]; exact hs)]
        · rw [inv.other d fun j oj hj hoj _ hdj => hw ⟨j, oj, hj, hoj, hdj⟩, textF_other n fun j oj hj hoj hdj => hw ⟨j, oj, hj, hoj, hdj⟩]
      have hdd := inv.defers.trans hd.symm
      cases a'
      cases hx : textF ops (BB F) a c vs n
      rw [hx] at ht hdd
      simp only at ht hdd
      rw [ht, hdd]
    subst e2
    have hLe : (fun j => listed.getD j false) = fun j => decide (j < n) := by
      funext j
      rcases Nat.lt_or_ge j n with hj | hj
      · rw [hall2 j hj]; simp [hj]
      · rcases Nat.lt_or_ge j listed.size with h1 | h1
        · have := inv.head.tail j hj (by rw [← inv.head.size]; exact h1)
          rw [getD_both this]
          simp; omega
        · simp [Array.getD_eq_getD_getElem?, Array.getElem?_eq_none h1]
          omega
    rw [hLe] at hI
    have hq := hQ _ _ (hs.last vs w' hI)
    have hlen : (ops.toList.drop n).length = ops.size - n := by simp
    have := wpAny_of_seq (md := .any) (Q' := Q') (ops.toList.drop n) n listed _ w' (fun j => by simp [List.getElem?_drop]) (by rw [hlen, e1]; exact hf.seq) hq
    rw [hlen] at this
    simpa using this
  | u + 1, vs, listed, a', w', hu, inv, hI => by
    rw [show u + 1 + (ops.size - n) = (u + (ops.size - n)) + 1 by omega]
    have hex : ∃ j, j < n ∧ listed.getD j true = false := by
      have : 0 < (List.range n).countP fun j => !listed.getD j true := by unfold leftF at hu; omega
      obtain ⟨j, hj, hp⟩ := List.countP_pos_iff.1 this
      exact ⟨j, List.mem_range.1 hj, by simpa using hp⟩
    have hsmall : ∀ d j, j ≤ d → j < n → listed.getD j true = false → ∃ i, i < n ∧ i ∈ Region.ready .any ops listed := by
      intro d
      induction d with
      | zero =>
        intro j hjd hj hun
        have hj0 : j = 0 := by omega
        subst hj0
        obtain ⟨oj, hoj⟩ : ∃ oj, ops[0]? = some oj := ⟨_, Array.getElem?_eq_getElem (by have := hf.le; omega)⟩
        exact ⟨0, hj, mem_ready.2 ⟨hun, oj, hoj, fun e he hb => by have := hf.after 0 oj hoj e he hb; omega⟩⟩
      | succ d ih =>
        intro j hjd hj hun
        obtain ⟨oj, hoj⟩ : ∃ oj, ops[j]? = some oj := ⟨_, Array.getElem?_eq_getElem (by have := hf.le; omega)⟩
        by_cases hall : ∀ e ∈ oj.after, Region.binds .any e = true → listed.getD e.on false = true
        · exact ⟨j, hj, mem_ready.2 ⟨hun, oj, hoj, hall⟩⟩
        · simp only [Classical.not_forall] at hall
          obtain ⟨e, he, hb, hno⟩ := hall
          have hlt := hf.after j oj hoj e he hb
          exact ih e.on (by omega) (by omega) (getD_in (by rw [inv.head.size]; have := hf.le; omega) (by simpa using hno))
    obtain ⟨j0, hj0, hun0⟩ := hex
    have hset : ∀ i, i < n → listed.getD i true = false → leftF n (listed.setIfInBounds i true) = u := fun i hin hun => by
      have hisl : i < listed.size := by rw [inv.head.size]; have := hf.le; omega
      have hc := cnt_set (fun j => !listed.getD j true) (fun j => !(listed.setIfInBounds i true).getD j true) i (fun j hj => by simp only [getD_set_ne true (Ne.symm hj)]) (by simp [hisl]) (by simp only [hun]; rfl) n hin
      unfold leftF at hu ⊢
      omega
    refine ⟨fun h0 => ?_, fun i hr => ?_⟩
    · obtain ⟨i, _, hi⟩ := hsmall j0 j0 (Nat.le_refl _) hj0 hun0
      rw [h0] at hi
      cases hi
    · obtain ⟨hun, o, ho, hall⟩ := mem_ready.1 hr
      have hisz : i < ops.size := (Array.getElem?_eq_some_iff.1 ho).1
      have hin : i < n := by
        rcases Nat.lt_or_ge i n with h | h
        · exact h
        · exfalso
          obtain ⟨hw1, hw2⟩ := hf.waits (by omega)
          have hin2 : i = n := by
            rcases Nat.lt_or_ge n i with h2 | h2
            · exfalso
              have h3 := List.all_eq_true.1 hw2 i (List.mem_range.2 hisz)
              simp only [Bool.or_eq_true, decide_eq_true_eq] at h3
              rcases h3 with h3 | h3
              · omega
              · obtain ⟨o', ho', e, he, hb, hon⟩ := Region.waitsFor_spec h3
                have : o' = o := Option.some.inj (ho'.symm.trans ho)
                subst this
                have h4 := hall e he hb
                rw [hon, getD_both (inv.head.tail (i - 1) (by omega) (by omega))] at h4
                cases h4
            · omega
          subst hin2
          obtain ⟨j, hj, hjr⟩ := hsmall j0 j0 (Nat.le_refl _) hj0 hun0
          have hjl : ([] : List Nat).contains j = true := by
            cases hc : ([] : List Nat).contains j with
            | true => rfl
            | false =>
              rcases needs_listed inv.head.closed (fun j' hw => by
                obtain ⟨o', ho', e, he, hb, hon⟩ := Region.waitsFor_spec hw
                have : o' = o := Option.some.inj (ho'.symm.trans ho)
                subst this
                rw [← hon]
                exact hall e he hb) _ j (hw1 j hj hc) with h4 | h4
              · omega
              · rw [getD_both (mem_ready.1 hjr).1] at h4
                cases h4
          simp at hjl
      have hkn : Rdy ops i (fun j => listed.getD j false) := fun j hwt => by
        obtain ⟨oi, hoi, e, he, hb, hon⟩ := Region.waitsFor_spec hwt
        have : oi = o := Option.some.inj (hoi.symm.trans ho)
        subst this
        have h1 := hall e he hb
        rw [hon] at h1
        exact h1
      have hstep := hs.step i o (Nat.zero_le _) hin ho _ vs w' hI hkn (getD_both hun)
      refine wpOp_mono (fun a2 w2 h2 => ?_) (op_of_step hf inv hin ho hr hstep)
      obtain ⟨v, rfl, hI2, hv⟩ := h2
      refine any_gen hf hs hQ u (fun j => if j = i then v else vs j) _ _ w2 (hset i hin hun) (inv_set hf inv hin ho hr trivial (fun j φ v hφ hp => by
        unfold BB at hφ
        split at hφ
        · cases hφ; trivial
        · cases hφ) (fun φ hφ => by
        unfold BB at hφ
        split at hφ
        · cases hφ; trivial
        · cases hφ) (fun hB => hv (by
        cases hc : F.contains i with
        | false => rfl
        | true => rw [BB_some hc] at hB; cases hB))) ?_
      have e1 : (fun j => (listed.setIfInBounds i true).getD j false) = upd (fun j => listed.getD j false) i := by
        funext j
        unfold upd
        by_cases hji : j = i
        · subst hji
          have hsz : j < listed.size := by rw [inv.head.size]; exact (Array.getElem?_eq_some_iff.1 ho).1
          simp [hsz]
        · rw [if_neg hji, getD_set_ne false (Ne.symm hji)]
      rw [e1]
      exact hI2
/-- The region, walked in the order of the text; the operations from n on in their forced order. -/
theorem wp_region_gen {id : Nat} {Q : Exit → Act → World → Prop} {a : Act} {w : World} {l : List Oper} (n : Nat) (F : List Nat) (I : (Nat → Bool) → (Nat → Value) → World → Prop) (hm : P.follows .mixedOrders = true) (hB : freeB l.toArray [] n = true)
    (h0 : I (fun _ => false) (fun _ => undef) { w with drawn := w.drawn + 1 })
    (h : wpGen P l.toArray I F n (fun a w => ∀ KK : Exit → Act → World → Prop, (∀ a w, Q .normal a w → KK .normal a w) → wpList P l.toArray KK (l.drop n) a w) (l.take n) 0 (fun _ => a)) : (Code.region id l.toArray true).wp P Q a w := by
  have hf := free_of hB
  have hln : n ≤ l.length := by simpa using hf.le
  obtain ⟨c, _, hs⟩ := steps_gen (ops := l.toArray) (n := n) (a := a) (l.take n) 0 (fun _ => a) (fun _ => undef) (fun j hj => by simp at hj; simp [hj]) (by simp; omega) (fun vs => rfl) h
  refine Code.wp_mono (Q := fun e a w => e = .normal ∧ Q e a w) (fun e a w h => h.2) ?_
  refine wp_region_any hm ?_
  have hu : leftF n (Array.replicate l.toArray.size false) = n := by
    unfold leftF
    have : ∀ j ∈ List.range n, (!(Array.replicate l.toArray.size false).getD j true) = true := fun j hj => by
      have := List.mem_range.1 hj
      simp [show j < l.length by omega]
    rw [List.countP_eq_length.2 this]
    simp
  have := any_gen (F := F) (I := I) (w0 := w) (c := c) (Q' := fun e a w => e = .normal ∧ Q e a w) hf hs (fun a w hq => by simpa using hq _ fun a w h => ⟨rfl, h⟩) n (fun _ => undef) (Array.replicate l.toArray.size false) a { w with drawn := w.drawn + 1 } hu
    ⟨⟨by simp, fun j oj _ hl => (by rw [getD_replicate_false] at hl; cases hl), fun t _ ht => getD_in (by simpa using ht) (getD_replicate_false _ _)⟩, trivial, fun j φ _ _ hl => (by rw [getD_replicate_false] at hl; cases hl), rfl, rfl, fun _ _ => rfl, fun j o d _ _ hl => (by rw [getD_replicate_false] at hl; cases hl)⟩ (by
    have e : (fun j => (Array.replicate l.toArray.size false).getD j false) = fun _ => false := by
      funext j
      exact getD_replicate_false _ _
    rw [e]
    exact h0)
  rwa [show n + (l.toArray.size - n) = l.toArray.size by simp; omega] at this
theorem wpGen_nil {Q : Act → World → Prop} {k : Nat} {A : (Nat → Value) → Act} (h : ∀ vs w, I (fun j => decide (j < n)) vs w → Q (A vs) w) : wpGen P ops I F n Q [] k A := h
theorem wpGen_pure {Q : Act → World → Prop} {o : Oper} {rest : List Oper} {k : Nat} {A : (Nat → Value) → Act} {v : Value} (hF : F.contains k = false)
    (h1 : ∀ L vs w, I L vs w → Rdy ops k L → L k = false → ∀ K : Value → World → Prop, (∀ w', I (upd L k) (updv vs k v) w' → K v w') → stepF P ops o (A vs) w K)
    (h2 : ∀ KK : ((Nat → Value) → Act) → Prop, (∀ A', wpGen P ops I F n Q rest (k + 1) A' → KK A') → KK (fun vs => (A vs).put o.dst v)) : wpGen P ops I F n Q (o :: rest) k A := by
  unfold wpGen
  rw [if_neg (by rw [hF]; simp)]
  exact ⟨v, h1, h2 _ fun _ h => h⟩
theorem wpGen_fact {Q : Act → World → Prop} {o : Oper} {rest : List Oper} {k : Nat} {A : (Nat → Value) → Act} (hF : F.contains k = true)
    (h1 : ∀ L vs w, I L vs w → Rdy ops k L → L k = false → ∀ K : Value → World → Prop, (∀ v w', I (upd L k) (updv vs k v) w' → K v w') → stepF P ops o (A vs) w K)
    (h2 : ∀ KK : ((Nat → Value) → Act) → Prop, (∀ A', wpGen P ops I F n Q rest (k + 1) A' → KK A') → KK (fun vs => (A vs).put o.dst (vs k))) : wpGen P ops I F n Q (o :: rest) k A := by
  unfold wpGen
  rw [if_pos hF]
  exact ⟨h1, h2 _ fun _ h => h⟩
end
end Go.Proofs.Ytjbhlojfmcldjab
