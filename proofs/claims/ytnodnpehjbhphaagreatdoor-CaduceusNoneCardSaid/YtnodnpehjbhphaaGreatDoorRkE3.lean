/- The steps of which the reckoner's operations are made: nothing changes, a block is made, cells are written, a block is changed whole, a block is adopted. Plain lemmas. -/
import Derived.Test.YtnodnpehjbhphaaGreatDoorRkE2
namespace Go.Proofs.YtnodnpehjbhphaaGreatDoor.Rk
open Go
set_option linter.unusedVariables false
theorem BR.mono {ρ ρ' : Env} {T T' : Nat → Prop} {b : Nat} {w w' : World} {x : ABlk} (h : BR ρ T b w x) (hr : ρ.le ρ') (hT : ∀ i, T' i → T i) (hw : ∀ r, ρ b = some r → w'.heap[r.blk]? = w.heap[r.blk]?) : BR ρ' T' b w' x := by
  cases x with
  | cells t cs =>
    obtain ⟨r, c, fr, h1, h2, h3, h4, h5, h6⟩ := h
    exact ⟨r, c, fr, hr _ _ h1, (hw r h1).trans h2, h3, h4, h5, fun i a hi ht => let ⟨v, hv, hR⟩ := h6 i a hi (hT i ht); ⟨v, hv, hR.mono hr⟩⟩
  | map es clock =>
    obtain ⟨r, es', h1, h2, h3, h4, h5⟩ := h
    exact ⟨r, es', hr _ _ h1, (hw r h1).trans h2, VRL.mono hr h3, VRL.mono hr h4, h5⟩
  | miter m since seen last =>
    obtain ⟨r, m', h1, h2, h3, h4⟩ := h
    refine ⟨r, m', hr _ _ h1, h2, (hw r h1).trans h3, ?_⟩
    cases m with
    | none => exact h4
    | some m => obtain ⟨q, hq, e⟩ := h4; exact ⟨q, hr _ _ hq, e⟩
  | defd =>
    obtain ⟨r, h1, h2⟩ := h
    exact ⟨r, hr _ _ h1, (hw r h1).trans h2⟩
  | loop ready p sz tmps ps assign body d =>
    obtain ⟨r, fn, tmps', q, h1, hq, h2, h3, h4⟩ := h
    exact ⟨r, fn, tmps', q, hr _ _ h1, hr _ _ hq, (hw r h1).trans h2, h3, fun t => (h4 t).mono hr⟩
  | dead => trivial
/-- Where the block is. -/
theorem BR.where_ {ρ : Env} {T : Nat → Prop} {b : Nat} {w : World} {x : ABlk} (h : BR ρ T b w x) (hl : live x) : ∃ r o, ρ b = some r ∧ w.heap[r.blk]? = some o := by
  cases x with
  | cells t cs => obtain ⟨r, c, fr, h1, h2, _⟩ := h; exact ⟨r, _, h1, h2⟩
  | map es clock => obtain ⟨r, es', h1, h2, _⟩ := h; exact ⟨r, _, h1, h2⟩
  | miter m since seen last => obtain ⟨r, m', h1, _, h2, _⟩ := h; exact ⟨r, _, h1, h2⟩
  | defd => obtain ⟨r, h1, h2⟩ := h; exact ⟨r, _, h1, h2⟩
  | loop ready p sz tmps ps assign body d => obtain ⟨r, fn, tmps', q, h1, hq, h2, _⟩ := h; exact ⟨r, _, h1, h2⟩
  | dead => exact hl.elim
theorem Tn_same (T : Nat → Nat → Prop) (n : Nat) : Tn T n n = T := by
  funext b i
  unfold Tn
  exact propext ⟨fun h => h.elim id (fun h => by omega), .inl⟩
/-- The model's heap stays. -/
structure Still (w w' : World) : Prop where
  os : w'.os = w.os
  tape : w'.tape = w.tape
  output : w'.output = w.output
  heap : w'.heap = w.heap
theorem Still.refl (w : World) : Still w w := ⟨rfl, rfl, rfl, rfl⟩
/-- One block is another one. -/
structure Alt (w w' : World) (B : Nat) (o : Obj) : Prop where
  os : w'.os = w.os
  tape : w'.tape = w.tape
  output : w'.output = w.output
  size : w'.heap.size = w.heap.size
  here : w'.heap[B]? = some o
  other : ∀ B', B' ≠ B → w'.heap[B']? = w.heap[B']?
/-- One block more. -/
structure Add (w w' : World) (o : Obj) : Prop where
  os : w'.os = w.os
  tape : w'.tape = w.tape
  output : w'.output = w.output
  size : w'.heap.size = w.heap.size + 1
  here : w'.heap[w.heap.size]? = some o
  other : ∀ B, B < w.heap.size → w'.heap[B]? = w.heap[B]?
theorem Add.push (w : World) (o : Obj) : Add w { w with heap := w.heap.push o } o :=
  ⟨rfl, rfl, rfl, by simp, by simp, fun B h => by simp [Array.getElem?_push]; omega⟩
theorem Add.drew {w w' : World} {o : Obj} (h : Add w w' o) (n : Nat) : Add w { w' with drawn := n } o := ⟨h.os, h.tape, h.output, h.size, h.here, h.other⟩
section
variable {ρ : Env} {T : Nat → Nat → Prop} {s s' : St} {w w' : World}
theorem good_same {s1 : St} (h : Good ρ T s.heap.get w) (hs : s1.heap = s.heap) (hw : Still w w') : Good ρ T s1.heap.get w' :=
  ⟨fun b x hb hT => by rw [hs] at hb; exact (h.sat b x hb hT).mono (Env.le_refl ρ) (fun _ h => h) (fun r _ => by rw [hw.heap]), fun b b' r r' x x' hx hx' hl hl' ht ht' hr hr' e => by rw [hs] at hx hx'; exact h.inj b b' r r' x x' hx hx' hl hl' ht ht' hr hr' e, fun b r hb => by rw [hw.heap]; exact h.old b r hb⟩
/-- Nothing changes. -/
theorem Post.same (h : Good ρ T s.heap.get w) (hs : s'.heap = s.heap) (hn : s'.n = s.n) (hw : Still w w') : Post ρ T s w ρ s' w' :=
  ⟨Env.le_refl ρ, fun b r h => .inl h, fun b r h1 h2 _ => (nomatch (h1.symm.trans h2)), by rw [hn, Tn_same]; exact good_same h hs hw, Unch.refl _ _ _ _ hw.os hw.tape hw.output hw.heap⟩
theorem Mono.same (hs : s'.heap = s.heap) (hn : s'.n = s.n) (hl : s'.log = s.log) : Mono s s' :=
  ⟨Nat.le_of_eq hn.symm, fun e he => by rw [hl]; exact he, fun h b hb => by rw [hs]; exact h b (by omega), fun _ b x h _ => by rw [hs, h]; exact Keep.refl _ _ _, fun _ b x' _ h hl => ⟨x', by rw [← hs]; exact h, hl⟩, fun _ e he => .inl (by rw [← hl]; exact he), fun _ hb e he => by rw [hn]; exact hb e (by rw [← hl]; exact he)⟩
def Env.add (ρ : Env) (b : Nat) (r : RB) : Env := fun x => if x = b then some r else ρ x
theorem Env.add_le {b : Nat} {r : RB} (h : ρ b = none) : ρ.le (ρ.add b r) := fun x q hq => by
  unfold Env.add
  by_cases hx : x = b
  · subst hx; rw [h] at hq; cases hq
  · rw [if_neg hx]; exact hq
theorem Env.add_self (b : Nat) (r : RB) : (ρ.add b r) b = some r := if_pos rfl
theorem Env.add_ne {b x : Nat} (r : RB) (h : x ≠ b) : (ρ.add b r) x = ρ x := if_neg h
theorem get_new (s : St) (x : ABlk) (b : Nat) : (s.new x).heap.get b = if b = s.n then some x else s.heap.get b := Tr.get_set _ _ _ _
theorem get_put (s : St) (c : Nat) (x : ABlk) (b : Nat) : (s.put c x).heap.get b = if b = c then some x else s.heap.get b := Tr.get_set _ _ _ _
theorem lt_wf {s : St} {b : Nat} {x : ABlk} (hw : WfS s) (h : s.heap.get b = some x) : b < s.n := by
  rcases Nat.lt_or_ge b s.n with h1 | h1
  · exact h1
  · rw [hw b h1] at h; cases h
theorem Mono.new (s : St) (x : ABlk) : Mono s (s.new x) :=
  ⟨Nat.le_succ _, fun _ h => h, fun h b hb => by
    have hb' : s.n + 1 ≤ b := hb
    rw [get_new, if_neg (by omega)]
    exact h b (by omega), fun hw b y h _ => by
    have : b ≠ s.n := fun e => by rw [hw b (by omega)] at h; cases h
    rw [get_new, if_neg this, h]
    exact Keep.refl _ _ _, fun _ b x' hb h hl => by
    rw [get_new, if_neg (by omega)] at h
    exact ⟨x', h, hl⟩, fun _ _ h => .inl h, fun _ hb e he => Nat.lt_succ_of_lt (hb e he)⟩
theorem Mono.put_note (s : St) (c : Nat) (x : ABlk) (hc : ∃ y, s.heap.get c = some y ∧ live y) : Mono s ((s.put c x).note (.all c)) :=
  ⟨Nat.le_refl _, fun _ h => List.mem_cons_of_mem _ h, fun h b hb => by
    show (s.put c x).heap.get b = none
    rw [get_put]
    by_cases hbc : b = c
    · subst hbc; obtain ⟨y, hy, _⟩ := hc; rw [h b hb] at hy; cases hy
    · rw [if_neg hbc]; exact h b hb, fun hw b y h hn => by
    show Keep _ b y ((s.put c x).heap.get b)
    rw [get_put]
    by_cases hbc : b = c
    · subst hbc; exact absurd (List.mem_cons_self ..) hn
    · rw [if_neg hbc, h]; exact Keep.refl _ _ _, fun _ b x' _ h hl => by
    replace h : (s.put c x).heap.get b = some x' := h
    rw [get_put] at h
    by_cases hbc : b = c
    · subst hbc; exact hc
    · rw [if_neg hbc] at h; exact ⟨x', h, hl⟩, fun _ e he => by
    rcases List.mem_cons.1 he with rfl | he
    · exact .inr (.inr hc)
    · exact .inl he, fun hw hb e he => by
    rcases List.mem_cons.1 he with rfl | he
    · obtain ⟨y, hy, _⟩ := hc; show c < s.n; exact lt_wf hw hy
    · exact hb e he⟩
theorem Mono.write (s : St) (c : Nat) {t : TypeId} {cs cs' : List AV} {off n : Nat} (hc : s.heap.get c = some (.cells t cs)) (hl : cs'.length = cs.length) (hk : ∀ i, ¬ (off ≤ i ∧ i < off + n) → cs'[i]? = cs[i]?) : Mono s ((s.put c (.cells t cs')).note (.wr c off n)) :=
  ⟨Nat.le_refl _, fun _ h => List.mem_cons_of_mem _ h, fun h b hb => by
    show (s.put c (.cells t cs')).heap.get b = none
    rw [get_put]
    by_cases hbc : b = c
    · subst hbc; rw [h b hb] at hc; cases hc
    · rw [if_neg hbc]; exact h b hb, fun hw b y h hn => by
    show Keep _ b y ((s.put c (.cells t cs')).heap.get b)
    rw [get_put]
    by_cases hbc : b = c
    · subst hbc
      rw [if_pos rfl]
      rw [hc] at h
      cases h
      exact ⟨cs', rfl, hl, fun i hi => hk i (fun hh => hi (.wr b off n) (List.mem_cons_self ..) ⟨rfl, hh⟩)⟩
    · rw [if_neg hbc, h]; exact Keep.refl _ _ _, fun _ b x' _ h hl2 => by
    replace h : (s.put c (.cells t cs')).heap.get b = some x' := h
    rw [get_put] at h
    by_cases hbc : b = c
    · subst hbc; exact ⟨_, hc, trivial⟩
    · rw [if_neg hbc] at h; exact ⟨x', h, hl2⟩, fun _ e he => by
    rcases List.mem_cons.1 he with rfl | he
    · exact .inr (.inr ⟨_, hc, trivial⟩)
    · exact .inl he, fun hw hb e he => by
    rcases List.mem_cons.1 he with rfl | he
    · show c < s.n; exact lt_wf hw hc
    · exact hb e he⟩
theorem Mono.note (s : St) (e : LE) (hc : ∃ y, s.heap.get e.blk = some y ∧ live y) : Mono s (s.note e) := ⟨Nat.le_refl _, fun _ h => List.mem_cons_of_mem _ h, fun h b hb => h b hb, fun _ b x h _ => by
  show Keep _ b x (s.heap.get b)
  rw [h]; exact Keep.refl _ _ _, fun _ b x' _ h hl => ⟨x', h, hl⟩, fun _ e he => by
  rcases List.mem_cons.1 he with rfl | he
  · exact .inr (.inr hc)
  · exact .inl he, fun hw hb e he => by
  rcases List.mem_cons.1 he with rfl | he
  · obtain ⟨y, hy, _⟩ := hc; show _ < s.n; exact lt_wf hw hy
  · exact hb e he⟩
theorem tn_old {n n' b : Nat} (hb : b < n) (h : ∃ i, Tn T n n' b i) : ∃ i, T b i := by
  obtain ⟨i, h | h⟩ := h
  · exact ⟨i, h⟩
  · omega
/-- A block is made. -/
theorem Post.made {x : ABlk} {o : Obj} {r : RB} (h : Good ρ T s.heap.get w) (hwf : WfS s) (hf : ρ s.n = none) (htn : ∀ b i, T b i → b < s.n) (hw : Add w w' o) (hr : r.blk = w.heap.size)
    (hx : BR (ρ.add s.n r) (fun _ => True) s.n w' x) : Post ρ T s w (ρ.add s.n r) (s.new x) w' := by
  have hle := Env.add_le (r := r) hf
  refine ⟨hle, fun b q hb => ?_, fun b q h1 h2 hlt => ?_, ⟨fun b y hb hT => ?_, fun b b' q q' y y' hy hy' hl hl' ht ht' hq hq' e => ?_, fun b q hb => ?_⟩, ⟨hw.os, hw.tape, hw.output, by have := hw.size; omega, fun B hB _ => hw.other B hB, fun B c t fr hc _ => ⟨c, (hw.other B (lt_of_some hc)).trans hc, rfl, fun _ _ => rfl⟩⟩⟩
  · by_cases hbn : b = s.n
    · subst hbn; exact .inr ⟨Nat.le_refl _, Nat.lt_succ_self _⟩
    · rw [Env.add_ne r hbn] at hb; exact .inl hb
  · by_cases hbn : b = s.n
    · subst hbn
      rw [Env.add_self] at h2
      cases h2
      omega
    · rw [Env.add_ne r hbn, h1] at h2; cases h2
  · rw [get_new] at hb
    by_cases hbn : b = s.n
    · subst hbn
      rw [if_pos rfl] at hb
      cases hb
      exact hx.mono (Env.le_refl _) (fun _ _ => trivial) (fun _ _ => rfl)
    · rw [if_neg hbn] at hb
      have hbo : b < s.n := by
        rcases Nat.lt_or_ge b s.n with h1 | h1
        · exact h1
        · rw [hwf b h1] at hb; cases hb
      refine (h.sat b y hb (tn_old hbo hT)).mono hle (fun i hi => ?_) (fun q hq => hw.other _ (h.old b q hq))
      rcases hi with hi | hi
      · exact hi
      · omega
  · rw [get_new] at hy hy'
    have key : ∀ b y q, (if b = s.n then some x else s.heap.get b) = some y → (ρ.add s.n r) b = some q → (b = s.n ∧ q = r) ∨ (b ≠ s.n ∧ b < s.n ∧ s.heap.get b = some y ∧ ρ b = some q) := fun b y q hy hq => by
      by_cases hb : b = s.n
      · subst hb; rw [Env.add_self] at hq; cases hq; exact .inl ⟨rfl, rfl⟩
      · rw [if_neg hb] at hy
        rw [Env.add_ne r hb] at hq
        refine .inr ⟨hb, ?_, hy, hq⟩
        rcases Nat.lt_or_ge b s.n with h1 | h1
        · exact h1
        · rw [hwf b h1] at hy; cases hy
    rcases key b y q hy hq with ⟨h1, h2⟩ | ⟨h1, h2, h3, h4⟩ <;> rcases key b' y' q' hy' hq' with ⟨h1', h2'⟩ | ⟨h1', h2', h3', h4'⟩
    · omega
    · have := h.old _ _ h4'; rw [h2] at e; omega
    · have := h.old _ _ h4; rw [h2'] at e; omega
    · exact h.inj b b' q q' y y' h3 h3' hl hl' (tn_old h2 ht) (tn_old h2' ht') h4 h4' e
  · have := hw.size
    by_cases hbn : b = s.n
    · subst hbn; rw [Env.add_self] at hb; cases hb; omega
    · rw [Env.add_ne r hbn] at hb; have := h.old b q hb; omega
theorem at_blk {e : LE} {b i : Nat} (h : e.at b i) : e.blk = b := by cases e <;> first | exact h.1 | exact h
/-- A block is changed whole. -/
theorem Post.alt {x x' : ABlk} {b : Nat} {o : Obj} {r : RB} (h : Good ρ T s.heap.get w) (hb : s.heap.get b = some x) (hl : live x) (hT : ∃ i, T b i) (hr : ρ b = some r) (hw : Alt w w' r.blk o)
    (hx : BR ρ (T b) b w' x') : Post ρ T s w ρ ((s.put b x').note (.all b)) w' := by
  refine ⟨Env.le_refl ρ, fun c q hc => .inl hc, fun c q h1 h2 _ => (nomatch (h1.symm.trans h2)), ?_, ⟨hw.os, hw.tape, hw.output, Nat.le_of_eq hw.size.symm, fun B hB hn => ?_, fun B c t fr hc hna => ?_⟩⟩
  · show Good ρ (Tn T s.n s.n) _ _
    rw [Tn_same]
    refine ⟨fun c y hc hTc => ?_, fun c c' q q' y y' hy hy' hl1 hl' ht ht' hq hq' e => ?_, fun c q hc => by rw [hw.size]; exact h.old c q hc⟩
    · replace hc : (s.put b x').heap.get c = some y := hc
      rw [get_put] at hc
      by_cases hcb : c = b
      · subst hcb; rw [if_pos rfl] at hc; cases hc; exact hx
      · rw [if_neg hcb] at hc
        by_cases hly : live y
        · refine (h.sat c y hc hTc).mono (Env.le_refl ρ) (fun _ h => h) (fun q hq => hw.other _ (fun e => hcb (h.inj c b q r y x hc hb hly hl hTc hT hq hr e)))
        · cases y <;> first | exact trivial | exact absurd trivial hly
    · replace hy : (s.put b x').heap.get c = some y := hy
      replace hy' : (s.put b x').heap.get c' = some y' := hy'
      rw [get_put] at hy hy'
      have key : ∀ c y, (if c = b then some x' else s.heap.get c) = some y → live y → ∃ z, s.heap.get c = some z ∧ live z := fun c y hy hl1 => by
        by_cases hcb : c = b
        · subst hcb; exact ⟨x, hb, hl⟩
        · rw [if_neg hcb] at hy; exact ⟨y, hy, hl1⟩
      obtain ⟨z, h1, h2⟩ := key c y hy hl1
      obtain ⟨z', h1', h2'⟩ := key c' y' hy' hl'
      exact h.inj c c' q q' z z' h1 h1' h2 h2' ht ht' hq hq' e
  · refine hw.other B (fun e => hn 0 ⟨.all b, List.mem_cons_self .., r, hr, e.symm, trivial⟩)
  · exact ⟨c, (hw.other B (fun e => hna ⟨b, r, List.mem_cons_self .., hr, e.symm⟩)).trans hc, rfl, fun _ _ => rfl⟩
/-- A block is no longer looked into. -/
theorem Post.kill {x : ABlk} {b : Nat} (h : Good ρ T s.heap.get w) (hb : s.heap.get b = some x) (hl : live x) (hw : Still w w') : Post ρ T s w ρ ((s.put b .dead).note (.all b)) w' := by
  refine ⟨Env.le_refl ρ, fun c q hc => .inl hc, fun c q h1 h2 _ => (nomatch (h1.symm.trans h2)), ?_, Unch.refl _ _ _ _ hw.os hw.tape hw.output hw.heap⟩
  show Good ρ (Tn T s.n s.n) _ _
  rw [Tn_same]
  refine ⟨fun c y hc hTc => ?_, fun c c' q q' y y' hy hy' hl1 hl' ht ht' hq hq' e => ?_, fun c q hc => by rw [hw.heap]; exact h.old c q hc⟩
  · replace hc : (s.put b .dead).heap.get c = some y := hc
    rw [get_put] at hc
    by_cases hcb : c = b
    · rw [if_pos hcb] at hc; cases hc; exact trivial
    · rw [if_neg hcb] at hc
      exact (h.sat c y hc hTc).mono (Env.le_refl ρ) (fun _ h => h) (fun q _ => by rw [hw.heap])
  · replace hy : (s.put b .dead).heap.get c = some y := hy
    replace hy' : (s.put b .dead).heap.get c' = some y' := hy'
    rw [get_put] at hy hy'
    have key : ∀ c y, (if c = b then some .dead else s.heap.get c) = some y → live y → s.heap.get c = some y := fun c y hy hl1 => by
      by_cases hcb : c = b
      · rw [if_pos hcb] at hy; cases hy; exact hl1.elim
      · rwa [if_neg hcb] at hy
    exact h.inj c c' q q' y y' (key c y hy hl1) (key c' y' hy' hl') hl1 hl' ht ht' hq hq' e
/-- Cells are written. -/
theorem Post.write {t : TypeId} {cs cs' : List AV} {b off n : Nat} {r : RB} {c c' : Array Value} {fr : Nat × Nat} (h : Good ρ T s.heap.get w) (hb : s.heap.get b = some (.cells t cs)) (hT : ∃ i, T b i) (hr : ρ b = some r)
    (hc : w.heap[r.blk]? = some (.cells c (t / 2) fr)) (hw : Alt w w' r.blk (.cells c' (t / 2) fr)) (hz : c'.size = c.size) (hs : ∀ o, ¬ (r.base + off ≤ o ∧ o < r.base + off + n) → c'[o]? = c[o]?) (hn : 0 < n)
    (hl : cs'.length = cs.length) (hv : ∀ i a, cs'[i]? = some a → T b i → ∃ v, c'[r.base + i]? = some v ∧ VR ρ a v) : Post ρ T s w ρ ((s.put b (.cells t cs')).note (.wr b off n)) w' := by
  have hsat := h.sat b _ hb hT
  obtain ⟨r0, c0, fr0, g1, g2, g3, g4, g5, g6⟩ := hsat
  have e1 : r0 = r := Option.some.inj (g1.symm.trans hr)
  subst e1
  have e2 : Obj.cells c0 (t / 2) fr0 = .cells c (t / 2) fr := Option.some.inj (g2.symm.trans hc)
  simp only [Obj.cells.injEq] at e2
  obtain ⟨e2, _, e3⟩ := e2
  subst e2 e3
  refine ⟨Env.le_refl ρ, fun c q hc => .inl hc, fun c q h1 h2 _ => (nomatch (h1.symm.trans h2)), ?_, ⟨hw.os, hw.tape, hw.output, Nat.le_of_eq hw.size.symm, fun B hB hno => ?_, fun B c1 t1 fr1 hc1 hna => ?_⟩⟩
  · show Good ρ (Tn T s.n s.n) _ _
    rw [Tn_same]
    refine ⟨fun c y hcy hTc => ?_, fun c c' q q' y y' hy hy' hl1 hl' ht ht' hq hq' e => ?_, fun c q hc => by rw [hw.size]; exact h.old c q hc⟩
    · replace hcy : (s.put b (.cells t cs')).heap.get c = some y := hcy
      rw [get_put] at hcy
      by_cases hcb : c = b
      · subst hcb
        rw [if_pos rfl] at hcy
        cases hcy
        exact ⟨r0, c', fr0, hr, hw.here, by rw [hz]; exact g3, by rw [hl]; exact g4, fun o h1 h2 => g5 o h1 (by rw [← hz]; exact h2), hv⟩
      · rw [if_neg hcb] at hcy
        by_cases hly : live y
        · refine (h.sat c y hcy hTc).mono (Env.le_refl ρ) (fun _ h => h) (fun q hq => hw.other _ (fun e => hcb (h.inj c b q r0 y _ hcy hb hly trivial hTc hT hq hr e)))
        · cases y <;> first | exact trivial | exact absurd trivial hly
    · replace hy : (s.put b (.cells t cs')).heap.get c = some y := hy
      replace hy' : (s.put b (.cells t cs')).heap.get c' = some y' := hy'
      rw [get_put] at hy hy'
      have key : ∀ c y, (if c = b then some (.cells t cs') else s.heap.get c) = some y → live y → ∃ z, s.heap.get c = some z ∧ live z := fun c y hy hl1 => by
        by_cases hcb : c = b
        · subst hcb; exact ⟨_, hb, trivial⟩
        · rw [if_neg hcb] at hy; exact ⟨y, hy, hl1⟩
      obtain ⟨z, h1, h2⟩ := key c y hy hl1
      obtain ⟨z', h1', h2'⟩ := key c' y' hy' hl'
      exact h.inj c c' q q' z z' h1 h1' h2 h2' ht ht' hq hq' e
  · refine hw.other B (fun e => hno (r0.base + off) ⟨.wr b off n, List.mem_cons_self .., r0, hr, e.symm, Nat.le_refl _, by omega⟩)
  · by_cases hB : B = r0.blk
    · subst hB
      rw [hc] at hc1
      cases hc1
      exact ⟨c', hw.here, hz, fun o ho => hs o (fun hh => ho ⟨.wr b off n, List.mem_cons_self .., r0, hr, rfl, hh⟩)⟩
    · exact ⟨c1, (hw.other B hB).trans hc1, rfl, fun _ _ => rfl⟩
/-- A block that is no longer looked into is looked into anew, under a new number. -/
theorem Post.adopt {x y : ABlk} {b : Nat} {o : Obj} {r q : RB} (h : Good ρ T s.heap.get w) (hwf : WfS s) (hf : ρ s.n = none) (hb : s.heap.get b = some x) (hl : live x) (hT : ∃ i, T b i) (hr : ρ b = some r) (hw : Alt w w' r.blk o) (hq : q.blk = r.blk)
    (hbn : b < s.n) (hx : BR (ρ.add s.n q) (fun _ => True) s.n w' y) : Post ρ T s w (ρ.add s.n q) (((s.put b .dead).note (.all b)).new y) w' := by
  have hle := Env.add_le (r := q) hf
  have hget : ∀ c, (((s.put b .dead).note (.all b)).new y).heap.get c = if c = s.n then some y else if c = b then some .dead else s.heap.get c := fun c => by
    rw [get_new]
    show (if c = s.n then _ else (s.put b .dead).heap.get c) = _
    rw [get_put]
  have hall : All ρ (((s.put b .dead).note (.all b)).new y).log r.blk := ⟨b, r, List.mem_cons_self .., hr, rfl⟩
  have key : ∀ c z p, (if c = s.n then some y else if c = b then some .dead else s.heap.get c) = some z → live z → (ρ.add s.n q) c = some p → (c = s.n ∧ p = q) ∨ (c ≠ s.n ∧ c < s.n ∧ c ≠ b ∧ s.heap.get c = some z ∧ ρ c = some p) := fun c z p hz hlz hp => by
    by_cases hc : c = s.n
    · subst hc; rw [Env.add_self] at hp; cases hp; exact .inl ⟨rfl, rfl⟩
    · rw [if_neg hc] at hz
      rw [Env.add_ne q hc] at hp
      by_cases hcb : c = b
      · rw [if_pos hcb] at hz; cases hz; exact hlz.elim
      · rw [if_neg hcb] at hz
        refine .inr ⟨hc, ?_, hcb, hz, hp⟩
        rcases Nat.lt_or_ge c s.n with h1 | h1
        · exact h1
        · rw [hwf c h1] at hz; cases hz
  refine ⟨hle, fun c p hc => ?_, fun c p h1 h2 hlt => ?_, ⟨fun c z hc hTc => ?_, fun c c' p p' z z' hz hz' hl1 hl' ht ht' hp hp' e => ?_, fun c p hc => ?_⟩, ⟨hw.os, hw.tape, hw.output, Nat.le_of_eq hw.size.symm, fun B hB hn => ?_, fun B c1 t1 fr1 hc1 hna => ?_⟩⟩
  · by_cases hcn : c = s.n
    · subst hcn; exact .inr ⟨Nat.le_refl _, Nat.lt_succ_self _⟩
    · rw [Env.add_ne q hcn] at hc; exact .inl hc
  · by_cases hcn : c = s.n
    · subst hcn
      rw [Env.add_self] at h2
      cases h2
      rw [hq]
      exact hall
    · rw [Env.add_ne q hcn, h1] at h2; cases h2
  · rw [hget] at hc
    by_cases hcn : c = s.n
    · subst hcn
      rw [if_pos rfl] at hc
      cases hc
      exact hx.mono (Env.le_refl _) (fun _ _ => trivial) (fun _ _ => rfl)
    · by_cases hcb : c = b
      · rw [if_neg hcn, if_pos hcb] at hc; cases hc; exact trivial
      · rw [if_neg hcn, if_neg hcb] at hc
        have hco : c < s.n := by
          rcases Nat.lt_or_ge c s.n with h1 | h1
          · exact h1
          · rw [hwf c h1] at hc; cases hc
        have hTo := tn_old hco hTc
        by_cases hlz : live z
        · refine (h.sat c z hc hTo).mono hle (fun i hi => ?_) (fun p hp => hw.other _ (fun e => hcb (h.inj c b p r z x hc hb hlz hl hTo hT hp hr e)))
          rcases hi with hi | hi
          · exact hi
          · omega
        · cases z <;> first | exact trivial | exact absurd trivial hlz
  · rw [hget] at hz hz'
    rcases key c z p hz hl1 hp with ⟨h1, h2⟩ | ⟨h1, h2, h3, h4, h5⟩ <;> rcases key c' z' p' hz' hl' hp' with ⟨h1', h2'⟩ | ⟨h1', h2', h3', h4', h5'⟩
    · omega
    · exact absurd (h.inj c' b p' r z' x h4' hb hl' hl (tn_old h2' ht') hT h5' hr (by rw [← e, h2, hq])) h3'
    · exact absurd (h.inj c b p r z x h4 hb hl1 hl (tn_old h2 ht) hT h5 hr (by rw [e, h2', hq])) h3
    · exact h.inj c c' p p' z z' h4 h4' hl1 hl' (tn_old h2 ht) (tn_old h2' ht') h5 h5' e
  · rw [hw.size]
    by_cases hcn : c = s.n
    · subst hcn; rw [Env.add_self] at hc; cases hc; rw [hq]; exact h.old b r hr
    · rw [Env.add_ne q hcn] at hc; exact h.old c p hc
  · exact hw.other B (fun e => hn 0 (e ▸ hall.wrt 0))
  · exact ⟨c1, (hw.other B (fun e => hna (e ▸ hall))).trans hc1, rfl, fun _ _ => rfl⟩
end
end Go.Proofs.YtnodnpehjbhphaaGreatDoor.Rk
