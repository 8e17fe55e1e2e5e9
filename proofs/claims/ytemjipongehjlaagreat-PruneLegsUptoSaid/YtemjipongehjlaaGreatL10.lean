/- What a verdict leaves of the other chains. No Go in sight. -/
import Derived.Test.YtemjipongehjlaaGreatL8
import Derived.Test.YtemjipongehjlaaGreatL9
import Derived.Test.YtemjipongehjlaaGreatL1
import Derived.Test.YtemjipongehjlaaGreatL2
import Derived.SliceStrings
import Derived.ChangeSlices
namespace Go.Proofs.YtemjipongehjlaaGreat.P
set_option linter.unusedVariables false
theorem set_get {α : Type} {l : List α} {k j : Nat} {x : α} (h : j ≠ k) : (l.set k x)[j]? = l[j]? := by
  rw [List.getElem?_set_ne (fun e => h e.symm)]
theorem Lined.at2 {ds : List Dest} {ls : List Leg} (h : Lined ds ls) {k : Nat} {d : Dest} (hd : ds[k]? = some d) : legAt ls d.name = some k := by
  obtain ⟨l, _, h2⟩ := h.at_ hd
  exact h2
theorem Lined.set_ {ds : List Dest} {ls : List Leg} (h : Lined ds ls) {k : Nat} {l l' : Leg} (hl : ls[k]? = some l) (hn : l'.name = l.name) : Lined ds (ls.set k l') := by
  refine ⟨by rw [List.length_set]; exact h.len, fun i d x hd hx => ?_, h.apart⟩
  by_cases hik : i = k
  · subst hik
    have hi : i < ls.length := by
      rcases Nat.lt_or_ge i ls.length with h1 | h1
      · exact h1
      · rw [List.getElem?_eq_none h1] at hl; cases hl
    rw [List.getElem?_set_self hi] at hx
    cases hx
    rw [hn]
    exact h.same i d l hd hl
  · rw [set_get hik] at hx
    exact h.same i d x hd hx
/-- The legs of all chains but one are as they were. -/
structure But (ds : List Dest) (ch : Int) (ls ls' : List Leg) : Prop where
  lined : Lined ds ls'
  same : ∀ (i : Nat) (d : Dest), ds[i]? = some d → d.chain ≠ ch → ls'[i]? = ls[i]?
theorem But.refl {ds : List Dest} {ch : Int} {ls : List Leg} (h : Lined ds ls) : But ds ch ls ls := ⟨h, fun _ _ _ _ => rfl⟩
theorem But.set_ {ds : List Dest} {ch : Int} {ls ls' : List Leg} (h : But ds ch ls ls') {k : Nat} {d : Dest} {l l' : Leg} (hd : ds[k]? = some d) (hc : d.chain = ch) (hl : ls'[k]? = some l) (hn : l'.name = l.name) : But ds ch ls (ls'.set k l') := by
  refine ⟨h.lined.set_ hl hn, fun i e he hne => ?_⟩
  have hik : i ≠ k := fun e' => by
    subst e'
    rw [hd] at he
    cases he
    exact hne hc
  rw [set_get hik]
  exact h.same i e he hne
theorem But.failLegs {ds : List Dest} {ch : Int} {ls ls' : List Leg} (h : But ds ch ls ls') {k : Nat} {o : Dest} (ho : ds[k]? = some o) (bh : Bool) : But ds ch ls (P.failLegs (bh && (o.chain == ch)) ls' o.name) := by
  rcases failLegs_key bh (o.chain == ch) ls' o.name with ⟨_, he⟩ | ⟨_, _, he⟩ | ⟨_, _, _, he⟩ | ⟨i, l, _, hc, hi, hil, hl, ⟨_, he⟩ | ⟨_, he⟩⟩
  · rw [he]; exact h
  · rw [he]; exact h
  · rw [he]; exact h
  · rw [he]; exact h
  · rw [he]
    have h2 := h.lined.at2 ho
    have hik : i = k := by
      unfold legI at hi
      rw [h2] at hi
      simp at hi
      omega
    subst hik
    exact h.set_ ho (by simpa using hc) hl rfl
theorem But.failed {ds : List Dest} {ls ls' : List Leg} {d : Dest} (h : But ds d.chain ls ls') : But ds d.chain ls (failed ds d ls') := by
  have key : ∀ k, k ≤ ds.length → But ds d.chain ls (failTo ds d ls' k).2 := fun k => by
    induction k with
    | zero => exact fun _ => h
    | succ k ih =>
      intro hk
      have ho : ds[k]? = some ds[k] := List.getElem?_eq_getElem (by omega)
      rw [failTo_step ho]
      exact (ih (by omega)).failLegs ho _
  rw [← failTo_all (Nat.le_refl ds.length)]
  exact key _ (Nat.le_refl _)
/-- The chain of the destination that is named, as a loop finds it. -/
def chainTo (ds : List Dest) (dest : ByteArray) (k : Nat) : Int := (ds.take k).foldl (fun c d => if (d.name.toList == dest.toList) = true then d.chain else c) (-1)
theorem chainTo_step {ds : List Dest} {dest : ByteArray} {k : Nat} {d : Dest} (h : ds[k]? = some d) : chainTo ds dest (k + 1) = if (d.name.toList == dest.toList) = true then d.chain else chainTo ds dest k := by
  unfold chainTo
  rw [List.take_add_one, h, List.foldl_append]
  rfl
theorem chainTo_at {ds : List Dest} {ls : List Leg} (h : Lined ds ls) {dest : ByteArray} {kd : Nat} {d : Dest} (hd : ds[kd]? = some d) (hn : d.name = dest) : ∀ k, k ≤ ds.length → chainTo ds dest k = if kd < k then d.chain else -1
  | 0, _ => rfl
  | k + 1, hk => by
    have ho : ds[k]? = some ds[k] := List.getElem?_eq_getElem (by omega)
    rw [chainTo_step ho, chainTo_at h hd hn k (by omega)]
    by_cases hkk : k = kd
    · subst hkk
      rw [ho] at hd
      cases hd
      rw [if_pos (by rw [hn]; simp), if_pos (by omega)]
    · have hne : (ds[k].name.toList == dest.toList) = false := by
        rw [← hn, ByteArray.toList_eq, ByteArray.toList_eq, beq_eq_false_iff_ne]
        rcases Nat.lt_or_gt_of_ne hkk with h1 | h1
        · exact h.apart k kd _ _ h1 ho hd
        · exact fun e => h.apart kd k _ _ h1 hd ho e.symm
      rw [hne]
      simp only [Bool.false_eq_true, if_false]
      by_cases h1 : kd < k
      · rw [if_pos h1, if_pos (by omega)]
      · rw [if_neg h1, if_neg (by omega)]
/-- A verdict's function leaves the other chains. -/
def Keeps (ds : List Dest) (F : List Leg → Nat → Leg → Dest → List Leg) : Prop := ∀ (ls ls' : List Leg) (k : Nat) (l : Leg) (d : Dest), Lined ds ls → But ds d.chain ls ls' → ds[k]? = some d → ls'[k]? = some l → But ds d.chain ls (F ls' k l d)
theorem keeps_fail (ds : List Dest) : Keeps ds (failTurn ds) := fun ls ls' k l d _ hb hd hl => (hb.set_ (l' := { l with status := 4, due := 0 }) hd rfl hl rfl).failed
theorem keeps_tried (now : Int) (ds : List Dest) : Keeps ds (triedTurn now ds) := fun ls ls' k l d h hb hd hl => by
  rcases triedTurn_key now ds ls' k l d with ⟨_, he⟩ | ⟨_, _, he⟩ | ⟨_, _, he⟩
  · rw [he]; exact hb.set_ hd rfl hl rfl
  · rw [he]; exact hb.set_ hd rfl hl rfl
  · rw [he]; exact keeps_fail ds ls ls' k l d h hb hd hl
def sentTurn (ls : List Leg) (k : Nat) (l : Leg) (d : Dest) : List Leg := ls.set k (sentLeg l)
theorem keeps_sent (ds : List Dest) : Keeps ds sentTurn := fun ls ls' k l d _ hb hd hl => hb.set_ hd rfl hl rfl
theorem turned_moved (state : Int) (ds : List Dest) (ls : List Leg) (dest reply : ByteArray) : turned sentLeg state ds ls dest reply = movedTo sentTurn state ds ls dest reply := by
  cases hb : hasS (next state ds ls) dest
  · rw [turned_no hb, movedTo_no hb]
  · obtain ⟨_, ⟨k, l, hk, _, hl, _, _⟩, kd, d, hkd, _, hd, _⟩ := turned_key hb
    rw [turned_yes hb hk hl, movedTo_yes hb hk hl hkd hd, sentTurn, List.set_set]
theorem destAt_name {ds : List Dest} {dest : ByteArray} {kd : Nat} {d : Dest} (h : destAt ds dest = some kd) (hd : ds[kd]? = some d) : d.name = dest := by
  unfold destAt at h
  obtain ⟨hk, hp, _⟩ := List.findIdx?_eq_some_iff_getElem.1 h
  rw [List.getElem?_eq_getElem hk] at hd
  cases hd
  exact bytes_eq (by simpa using hp)
/-- Behind a verdict the legs of the other chains are as they were. -/
theorem moved_but {F : List Leg → Nat → Leg → Dest → List Leg} {state : Int} {ds : List Dest} {ls : List Leg} {dest reply : ByteArray} (h : Lined ds ls) (hF : Keeps ds F) : But ds (chainTo ds dest ds.length) ls (movedTo F state ds ls dest reply) := by
  cases hb : hasS (next state ds ls) dest
  · rw [movedTo_no hb]
    exact But.refl h
  · obtain ⟨_, ⟨k, l, hk, _, hl, _, hkl⟩, kd, d, hkd, _, hd, hkdl⟩ := turned_key hb
    have hn := destAt_name hkd hd
    have h2 := h.at2 hd
    rw [hn, hk] at h2
    obtain rfl : k = kd := Option.some.inj h2
    rw [movedTo_yes hb hk hl hkd hd, chainTo_at h hd hn _ (Nat.le_refl _), if_pos hkdl]
    exact hF ls _ k _ d h ((But.refl h).set_ hd rfl hl rfl) hd (by rw [List.getElem?_set_self hkl])
end Go.Proofs.YtemjipongehjlaaGreat.P
/- What may go next, told by two loops: the steps. No Go in sight. -/
namespace Go.Proofs.YtemjipongehjlaaGreat.P
set_option linter.unusedVariables false
/-- Is the leg open, and none before place j of its chain? -/
def mayTo (ds : List Dest) (ls : List Leg) (j : Nat) (d : Dest) (l : Leg) : Bool :=
  l.isOpen && !((List.range j).any fun j => match ds[j]?, ls[j]? with | some e, some x => e.chain == d.chain && x.isOpen | _, _ => false)
theorem mayTo_zero (ds : List Dest) (ls : List Leg) (d : Dest) (l : Leg) : mayTo ds ls 0 d l = l.isOpen := by simp [mayTo]
theorem mayTo_step {ds : List Dest} {ls : List Leg} {j : Nat} {d e : Dest} {l x : Leg} (he : ds[j]? = some e) (hx : ls[j]? = some x) :
    mayTo ds ls (j + 1) d l = (mayTo ds ls j d l && !(e.chain == d.chain && x.isOpen)) := by
  unfold mayTo
  rw [List.range_succ, List.any_append]
  simp only [List.any_cons, List.any_nil, Bool.or_false, he, hx, Bool.not_or, Bool.and_assoc]
theorem goFrom_yes {ds : List Dest} {ls : List Leg} {f k : Nat} {d : Dest} {l : Leg} (hd : ds[k]? = some d) (hl : ls[k]? = some l) (h : mayTo ds ls k d l = true) : goFrom ds ls (f + 1) k = d.name :: goFrom ds ls f (k + 1) := by
  rw [goFrom, hd, hl]
  simp only
  rw [if_pos (show mayAt ds ls k d l = true from h)]
theorem goFrom_no {ds : List Dest} {ls : List Leg} {f k : Nat} {d : Dest} {l : Leg} (hd : ds[k]? = some d) (hl : ls[k]? = some l) (h : mayTo ds ls k d l = false) : goFrom ds ls (f + 1) k = goFrom ds ls f (k + 1) := by
  rw [goFrom, hd, hl]
  simp only
  rw [if_neg (by rw [show mayAt ds ls k d l = false from h]; simp)]
/-- Where no leg before place k is open: nothing may go from there on, where and only where no leg is open. -/
theorem goFrom_empty {ds : List Dest} {ls : List Leg} (hlen : ls.length = ds.length) : ∀ (f k : Nat), k + f = ds.length → (∀ j x, j < k → ls[j]? = some x → x.isOpen = false) → ((goFrom ds ls f k).length == 0) = ((ls.drop k).all fun l => !l.isOpen)
  | 0, k, hk, _ => by
    rw [List.drop_eq_nil_of_le (by omega)]
    rfl
  | f + 1, k, hk, hno => by
    have hkd : k < ds.length := by omega
    have hkl : k < ls.length := by omega
    have hd : ds[k]? = some ds[k] := List.getElem?_eq_getElem hkd
    have hl : ls[k]? = some ls[k] := List.getElem?_eq_getElem hkl
    rw [List.drop_eq_getElem_cons hkl, List.all_cons]
    cases ho : ls[k].isOpen
    · rw [goFrom_no hd hl (by rw [mayTo, ho]; rfl), goFrom_empty hlen f (k + 1) (by omega) fun j x hj hx => by
        rcases Nat.lt_or_ge j k with h1 | h1
        · exact hno j x h1 hx
        · have : j = k := by omega
          subst this
          rw [hl] at hx
          cases hx
          exact ho]
      simp
    · have hm : mayTo ds ls k ds[k] ls[k] = true := by
        rw [mayTo, ho, Bool.true_and, Bool.not_eq_true', List.any_eq_false]
        intro j hj
        have hjk : j < k := List.mem_range.1 hj
        have hjd : j < ds.length := by omega
        have hjl : j < ls.length := by omega
        rw [List.getElem?_eq_getElem hjd, List.getElem?_eq_getElem hjl]
        simp only
        rw [hno j _ hjk (List.getElem?_eq_getElem hjl)]
        simp
      rw [goFrom_yes hd hl hm]
      simp
theorem goFrom_le (ds : List Dest) (ls : List Leg) : ∀ f k, (goFrom ds ls f k).length ≤ f
  | 0, k => by simp [goFrom]
  | f + 1, k => by
    have := goFrom_le ds ls f (k + 1)
    rw [goFrom]
    split
    · split
      · simp; omega
      · omega
    · simp
theorem next_end {ds : List Dest} {ls : List Leg} (h : Lined ds ls) : ((next 3 ds ls).length == 0) = terminal 3 ls := by
  rw [next, if_pos rfl, nextGo_lined h, goFrom_empty h.len _ 0 (by omega) fun j x hj => by omega]
  simp [terminal]
theorem next_lined {ds : List Dest} {ls : List Leg} (h : Lined ds ls) : next 3 ds ls = goFrom ds ls ds.length 0 := by
  rw [next, if_pos rfl, nextGo_lined h]
end Go.Proofs.YtemjipongehjlaaGreat.P
/- When a row may stand where another one stood: the plain laws. No Go in sight. -/
namespace Go.Proofs.YtemjipongehjlaaGreat.P
set_option linter.unusedVariables false
theorem mayLeg_refl (x : Leg) : mayLeg x x = true := by simp [mayLeg]
theorem mayLegs_refl : ∀ l : List Leg, mayLegs l l = true
  | [] => rfl
  | x :: l => by simp [mayLegs, mayLeg_refl x, mayLegs_refl l]
theorem forward_refl (a : Head) (la : List Leg) : forward a a la la = true := by simp [forward, mayLegs_refl]
/-- Is there a leg that moved, and whose tries went down? -/
def downLeg (x z : Leg) : Bool := x.status != z.status && decide (z.tries < x.tries)
def down : List Leg → List Leg → Bool
  | x :: xs, z :: zs => downLeg x z || down xs zs
  | _, _ => false
theorem mayLeg_trans {x y z : Leg} (h1 : mayLeg x y = true) (h2 : mayLeg y z = true) (h3 : downLeg x z = false) : mayLeg x z = true := by
  simp only [mayLeg, downLeg, Bool.and_eq_true, Bool.or_eq_true, beq_iff_eq, decide_eq_true_eq, Bool.and_eq_false_iff, bne_eq_false_iff_eq, decide_eq_false_iff_not] at *
  obtain ⟨n1, h1⟩ := h1
  obtain ⟨n2, h2⟩ := h2
  refine ⟨n1.trans n2, ?_⟩
  omega
theorem mayLegs_trans : ∀ {a b c : List Leg}, mayLegs a b = true → mayLegs b c = true → down a c = false → mayLegs a c = true
  | [], [], [], _, _, _ => rfl
  | [], [], z :: c, _, h, _ => by cases h
  | [], y :: b, _, h, _, _ => by cases h
  | x :: a, [], _, h, _, _ => by cases h
  | x :: a, y :: b, [], _, h, _ => by cases h
  | x :: a, y :: b, z :: c, h1, h2, h3 => by
    simp only [mayLegs, down, Bool.and_eq_true, Bool.or_eq_false_iff] at *
    exact ⟨mayLeg_trans h1.1 h2.1 h3.1, mayLegs_trans h1.2 h2.2 h3.2⟩
theorem forward_trans {a b c : Head} {la lb lc : List Leg} (h1 : forward a b la lb = true) (h2 : forward b c lb lc = true) (h3 : a.state = 3 → down la lc = false) : forward a c la lc = true := by
  simp only [forward, Bool.and_eq_true, Bool.or_eq_true, beq_iff_eq, bne_iff_ne] at *
  obtain ⟨i1, r1, t1, w1, s1⟩ := h1
  obtain ⟨i2, r2, t2, w2, s2⟩ := h2
  refine ⟨i1.trans i2, r1.trans r2, t1.trans t2, w1.trans w2, ?_⟩
  rcases s1 with s1 | ⟨e1, s1⟩
  · exact Or.inl s1
  · rcases s2 with s2 | ⟨e2, s2⟩
    · exact Or.inl (e1.trans s2)
    · refine Or.inr ⟨e1.trans e2, ?_⟩
      by_cases h : a.state = 3
      · refine Or.inr (mayLegs_trans (s1.resolve_left (fun k => k h)) (s2.resolve_left (fun k => k (e1 ▸ h))) (h3 h))
      · exact Or.inl h
end Go.Proofs.YtemjipongehjlaaGreat.P
/- What a verdict makes of a row's legs: they go forward alone, and those that are done stay. No Go in sight. -/
namespace Go.Proofs.YtemjipongehjlaaGreat.P
set_option linter.unusedVariables false
/-- May a leg become another one? -/
def Ok (x y : Leg) : Prop := y = x ∨ (x.isOpen = true ∧ y.name = x.name ∧ (y.status = 1 → x.status = 1) ∧ 0 ≤ y.status ∧ y.status ≤ 4 ∧ x.tries ≤ y.tries ∧ y.tries ≤ 9223372036854775807)
theorem open_status {x : Leg} (h : x.isOpen = true) : x.status = 1 ∨ x.status = 2 := by
  unfold Leg.isOpen at h
  simpa using h
theorem status_open {x : Leg} (h : x.status = 1 ∨ x.status = 2) : x.isOpen = true := by
  unfold Leg.isOpen
  simpa using h
theorem Ok.trans {x y z : Leg} (h : Ok x y) (k : Ok y z) : Ok x z := by
  rcases h with rfl | ⟨h1, h2, h3, h4, h5, h6, h7⟩
  · exact k
  · rcases k with rfl | ⟨k1, k2, k3, k4, k5, k6, k7⟩
    · exact Or.inr ⟨h1, h2, h3, h4, h5, h6, h7⟩
    · exact Or.inr ⟨h1, k2.trans h2, fun h => h3 (k3 h), k4, k5, Int.le_trans h6 k6, k7⟩
theorem Ok.may {x y : Leg} (h : Ok x y) : mayLeg x y = true := by
  rcases h with rfl | ⟨h1, h2, h3, h4, h5, h6, h7⟩
  · exact mayLeg_refl _
  · unfold mayLeg
    rw [h2]
    have := open_status h1
    simp only [Bool.and_eq_true, Bool.or_eq_true, beq_iff_eq, decide_eq_true_eq]
    refine ⟨trivial, ?_⟩
    omega
theorem Ok.sent {x y : Leg} (h : Ok x y) (hs : x.status = 3) : y = x := by
  rcases h with h | ⟨h1, _⟩
  · exact h
  · have := open_status h1
    omega
theorem Ok.shut {x y : Leg} (h : Ok x y) (hs : x.isOpen = false) : y.isOpen = false := by
  rcases h with rfl | ⟨h1, _⟩
  · exact hs
  · rw [hs] at h1; cases h1
def OkAll : List Leg → List Leg → Prop
  | [], [] => True
  | x :: xs, y :: ys => Ok x y ∧ OkAll xs ys
  | _, _ => False
theorem OkAll.refl : ∀ l : List Leg, OkAll l l
  | [] => trivial
  | x :: l => ⟨Or.inl rfl, OkAll.refl l⟩
theorem OkAll.trans : ∀ {a b c : List Leg}, OkAll a b → OkAll b c → OkAll a c
  | [], [], [], _, _ => trivial
  | [], [], _ :: _, _, h => h.elim
  | [], _ :: _, _, h, _ => h.elim
  | _ :: _, [], _, h, _ => h.elim
  | _ :: _, _ :: _, [], _, h => h.elim
  | x :: a, y :: b, z :: c, ⟨h1, h2⟩, ⟨k1, k2⟩ => ⟨h1.trans k1, h2.trans k2⟩
theorem OkAll.set_ : ∀ {a : List Leg} {k : Nat} {l l' : Leg}, a[k]? = some l → Ok l l' → OkAll a (a.set k l')
  | [], k, l, l', h, _ => by simp at h
  | x :: a, 0, l, l', h, ho => by
    simp at h
    subst h
    exact ⟨ho, OkAll.refl a⟩
  | x :: a, k + 1, l, l', h, ho => ⟨Or.inl rfl, OkAll.set_ (by simpa using h) ho⟩
theorem OkAll.len : ∀ {a b : List Leg}, OkAll a b → b.length = a.length
  | [], [], _ => rfl
  | [], _ :: _, h => h.elim
  | _ :: _, [], h => h.elim
  | x :: a, y :: b, ⟨_, h⟩ => by simp [h.len]
theorem OkAll.get : ∀ {a b : List Leg} {k : Nat} {x y : Leg}, OkAll a b → a[k]? = some x → b[k]? = some y → Ok x y
  | [], _, k, x, y, _, h, _ => by simp at h
  | _ :: _, [], k, x, y, h, _, _ => h.elim
  | u :: a, v :: b, 0, x, y, ⟨h, _⟩, hx, hy => by
    simp at hx hy
    subst hx hy
    exact h
  | u :: a, v :: b, k + 1, x, y, ⟨_, h⟩, hx, hy => OkAll.get h (by simpa using hx) (by simpa using hy)
theorem OkAll.may : ∀ {a b : List Leg}, OkAll a b → mayLegs a b = true
  | [], [], _ => rfl
  | [], _ :: _, h => h.elim
  | _ :: _, [], h => h.elim
  | x :: a, y :: b, ⟨h1, h2⟩ => by simp [mayLegs, h1.may, h2.may]
/-- How many legs are not open. -/
def shutN (l : List Leg) : Nat := l.countP fun x => !x.isOpen
theorem OkAll.shutN_le : ∀ {a b : List Leg}, OkAll a b → shutN a ≤ shutN b
  | [], [], _ => Nat.le_refl _
  | [], _ :: _, h => h.elim
  | _ :: _, [], h => h.elim
  | x :: a, y :: b, ⟨h1, h2⟩ => by
    have ih := h2.shutN_le
    unfold shutN at *
    rw [List.countP_cons, List.countP_cons]
    cases hx : x.isOpen
    · rw [h1.shut hx]
      simp
      exact ih
    · cases hy : y.isOpen <;> simp <;> omega
theorem shutN_set : ∀ {a : List Leg} {k : Nat} {l l' : Leg}, a[k]? = some l → l.isOpen = true → l'.isOpen = false → shutN (a.set k l') = shutN a + 1
  | [], k, l, l', h, _, _ => by simp at h
  | x :: a, 0, l, l', h, ho, hs => by
    simp at h
    subst h
    unfold shutN
    rw [List.set_cons_zero, List.countP_cons, List.countP_cons, ho, hs]
    simp
  | x :: a, k + 1, l, l', h, ho, hs => by
    have ih := shutN_set (a := a) (k := k) (l := l) (l' := l') (by simpa using h) ho hs
    unfold shutN at *
    rw [List.set_cons_succ, List.countP_cons, List.countP_cons, ih]
    omega
theorem shutN_le_len (a : List Leg) : shutN a ≤ a.length := List.countP_le_length
theorem ok_mk {x : Leg} (y : Leg) (s : Int) (h : x.isOpen = true) (hn : y.name = x.name) (hs : y.status = s) (h1 : s ≠ 1) (h0 : 0 ≤ s) (h4 : s ≤ 4) (ht : y.tries = x.tries) (hx : x.tries ≤ 9223372036854775807) : Ok x y :=
  Or.inr ⟨h, hn, fun e => absurd (hs.symm.trans e) h1, by omega, by omega, by omega, by omega⟩
theorem ok_out {l : Leg} (h : l.isOpen = true) (ht : l.tries ≤ 9223372036854775807) : Ok l (leftOut l) := ok_mk _ 0 h rfl rfl (by decide) (by decide) (by decide) rfl ht
/-- Each leg's numbers are small enough. -/
def Fine (l : List Leg) : Prop := ∀ x ∈ l, 0 ≤ x.status ∧ x.status ≤ 4 ∧ 0 ≤ x.tries ∧ x.tries ≤ 9223372036854775807
theorem Fine.at_ {l : List Leg} (h : Fine l) {k : Nat} {x : Leg} (hx : l[k]? = some x) : 0 ≤ x.status ∧ x.status ≤ 4 ∧ 0 ≤ x.tries ∧ x.tries ≤ 9223372036854775807 := h x (List.mem_of_getElem? hx)
theorem OkAll.fine {a b : List Leg} (h : OkAll a b) (hf : Fine a) : Fine b := by
  intro y hy
  obtain ⟨k, hk⟩ := List.getElem?_of_mem hy
  have hkb : k < b.length := by
    rcases Nat.lt_or_ge k b.length with h1 | h1
    · exact h1
    · rw [List.getElem?_eq_none h1] at hk; cases hk
  have hx := List.getElem?_eq_getElem (l := a) (i := k) (by rw [← h.len]; exact hkb)
  have hfx := hf.at_ hx
  rcases h.get hx hk with rfl | ⟨h1, h2, h3, h4, h5, h6, h7⟩
  · exact hfx
  · exact ⟨h4, h5, by omega, h7⟩
theorem ok_failLegs {ls : List Leg} (hf : Fine ls) (may : Bool) (name : ByteArray) : OkAll ls (failLegs may ls name) := by
  unfold failLegs
  split
  · split
    · rename_i i hi
      split
      · rename_i l hl
        split
        · rename_i ho
          exact OkAll.set_ hl (ok_out ho (hf.at_ hl).2.2.2)
        · exact OkAll.refl _
      · exact OkAll.refl _
    · exact OkAll.refl _
  · exact OkAll.refl _
theorem ok_failTo {ds : List Dest} {d : Dest} {ls : List Leg} (hf : Fine ls) : ∀ k, k ≤ ds.length → OkAll ls (failTo ds d ls k).2
  | 0, _ => OkAll.refl _
  | k + 1, hk => by
    have ih := ok_failTo (ds := ds) (d := d) hf k (by omega)
    rw [failTo_step (List.getElem?_eq_getElem (by omega : k < ds.length))]
    exact ih.trans (ok_failLegs (ih.fine hf) _ _)
theorem ok_failed {ds : List Dest} {d : Dest} {ls : List Leg} (hf : Fine ls) : OkAll ls (failed ds d ls) := by
  rw [← failTo_all (Nat.le_refl ds.length)]
  exact ok_failTo hf _ (Nat.le_refl _)
theorem add_ge {a : Int} (h : 0 ≤ a) (h1 : a ≤ 9223372036854775807) : a ≤ add a 1 ∧ add a 1 ≤ 9223372036854775807 := by
  unfold add
  split <;> omega
theorem ok_touch {l : Leg} (reply : ByteArray) (h : l.isOpen = true) (h0 : 0 ≤ l.status ∧ l.status ≤ 4 ∧ 0 ≤ l.tries ∧ l.tries ≤ 9223372036854775807) : Ok l (touch l reply) := by
  obtain ⟨a1, a2, a3, a4⟩ := h0
  obtain ⟨b1, b2⟩ := add_ge a3 a4
  exact Or.inr ⟨h, rfl, fun h => h, a1, a2, b1, b2⟩
/-- What a verdict's function makes of an open leg, and of the others. -/
def Turn (F : List Leg → Nat → Leg → Dest → List Leg) : Prop := ∀ (ls : List Leg) (k : Nat) (l : Leg) (d : Dest), Fine ls → ls[k]? = some l → l.isOpen = true → OkAll ls (F ls k l d)
/-- And it shuts it. -/
def Shuts (F : List Leg → Nat → Leg → Dest → List Leg) : Prop := ∀ (ls : List Leg) (k : Nat) (l : Leg) (d : Dest), Fine ls → ls[k]? = some l → l.isOpen = true → shutN ls + 1 ≤ shutN (F ls k l d)
theorem turn_sent : Turn sentTurn := fun ls k l d hf hl ho => OkAll.set_ hl (ok_mk (sentLeg l) 3 ho rfl rfl (by decide) (by decide) (by decide) rfl (hf.at_ hl).2.2.2)
theorem shuts_sent : Shuts sentTurn := fun ls k l d hf hl ho => by
  unfold sentTurn
  rw [shutN_set hl ho (by rfl)]
  exact Nat.le_refl _
theorem ok_err {l : Leg} (h : l.isOpen = true) (ht : l.tries ≤ 9223372036854775807) : Ok l { l with status := 4, due := 0 } := ok_mk _ 4 h rfl rfl (by decide) (by decide) (by decide) rfl ht
theorem turn_fail (ds : List Dest) : Turn (failTurn ds) := fun ls k l d hf hl ho => by
  have h1 := OkAll.set_ hl (ok_err ho (hf.at_ hl).2.2.2)
  exact h1.trans (ok_failed (h1.fine hf))
theorem shuts_fail (ds : List Dest) : Shuts (failTurn ds) := fun ls k l d hf hl ho => by
  have h1 := OkAll.set_ hl (ok_err ho (hf.at_ hl).2.2.2)
  have h2 := (ok_failed (ds := ds) (d := d) (h1.fine hf)).shutN_le
  rw [shutN_set (l' := { l with status := 4, due := 0 }) hl ho (by rfl)] at h2
  exact h2
theorem turn_tried (now : Int) (ds : List Dest) : Turn (triedTurn now ds) := fun ls k l d hf hl ho => by
  have h1 : Ok l { l with status := 2, due := dueAt now d.backoff l.tries } := ok_mk _ 2 ho rfl rfl (by decide) (by decide) (by decide) rfl (hf.at_ hl).2.2.2
  rcases triedTurn_key now ds ls k l d with ⟨_, he⟩ | ⟨_, _, he⟩ | ⟨_, _, he⟩
  · rw [he]; exact OkAll.set_ hl h1
  · rw [he]; exact OkAll.set_ hl h1
  · rw [he]; exact turn_fail ds ls k l d hf hl ho
/-- Behind a verdict on what is next. -/
theorem moved_step {F : List Leg → Nat → Leg → Dest → List Leg} {ds : List Dest} {ls : List Leg} {dest reply : ByteArray} (hf : Fine ls) (hh : hasS (next 3 ds ls) dest = true) (hF : Turn F) :
    OkAll ls (movedTo F 3 ds ls dest reply) ∧ (Shuts F → shutN ls + 1 ≤ shutN (movedTo F 3 ds ls dest reply)) := by
  obtain ⟨_, ⟨k, l, hk, _, hl, ho, hkl⟩, kd, d, hkd, _, hd, _⟩ := turned_key hh
  rw [movedTo_yes hh hk hl hkd hd]
  have h1 := OkAll.set_ hl (ok_touch reply ho (hf.at_ hl))
  have hg : (ls.set k (touch l reply))[k]? = some (touch l reply) := by rw [List.getElem?_set_self hkl]
  have ho2 : (touch l reply).isOpen = true := ho
  exact ⟨h1.trans (hF _ k _ d (h1.fine hf) hg ho2), fun hS => Nat.le_trans (Nat.succ_le_succ h1.shutN_le) (hS _ k _ d (h1.fine hf) hg ho2)⟩
theorem legsOf_fine (ds : List Dest) (routes : List ByteArray) (payload : ByteArray) : Fine (legsOf ds routes payload) := by
  intro x hx
  unfold legsOf at hx
  obtain ⟨d, _, rfl⟩ := List.mem_map.1 hx
  unfold legOf
  split <;> simp
theorem legsOf_lined {ds : List Dest} (routes : List ByteArray) (payload : ByteArray) (h : ∀ (i j : Nat) (d e : Dest), i < j → ds[i]? = some d → ds[j]? = some e → d.name.data.toList ≠ e.name.data.toList) : Lined ds (legsOf ds routes payload) := by
  refine ⟨by simp [legsOf], fun i d l hd hl => ?_, h⟩
  unfold legsOf at hl
  rw [List.getElem?_map, hd] at hl
  simp at hl
  subst hl
  unfold legOf
  split <;> rfl
theorem mem_hasS {l : List ByteArray} {x : ByteArray} (h : x ∈ l) : hasS l x = true := by
  unfold hasS
  rw [List.any_eq_true]
  exact ⟨x, h, by simp⟩
end Go.Proofs.YtemjipongehjlaaGreat.P
/- Lists of ints that were there; masks. Plain lemmas. -/
namespace Go.Proofs.YtemjipongehjlaaGreat
set_option linter.unusedVariables false
open Go Go.RowKit
def IntsAt (w : World) (B : Nat) (A : Option Addr) (n : Nat) (l : List Int) : Prop := Reads w B 1 A n (l.map (Value.int .i64))
section
variable {w w' : World} {B B' n : Nat} {A : Option Addr} {l : List Int}
theorem IntsAt.len (h : IntsAt w B A n l) : l.length = n := by
  have := h.1
  rw [List.length_map] at this
  omega
theorem IntsAt.below (h : IntsAt w B A n l) (hb : Below B w w') : IntsAt w' B A n l := Reads.below h hb
theorem IntsAt.in_ {k : Nat} (h : IntsAt w B A n l) (hk : k < n) : ∃ ad s, A = some ad ∧ ad.block < B ∧ l[k]? = some s ∧ w.cell? (ad.add k) = some (.int .i64 s) := by
  obtain ⟨ad, e, hb, hc⟩ := h.2 (by omega)
  have hl := h.len
  have hlk := List.getElem?_eq_getElem (l := l) (i := k) (by omega)
  exact ⟨ad, _, e, hb, hlk, hc k _ (by rw [List.getElem?_map, hlk]; rfl)⟩
end
theorem and_low (x : Int) (m : Nat) (hm : m < 1000) : 0 ≤ bits .and .i64 x (m : Int) ∧ bits .and .i64 x (m : Int) ≤ m := by
  have h2 : (BitVec.ofInt 64 (m : Int)).toNat = m := by
    rw [BitVec.ofInt_natCast, BitVec.toNat_ofNat]; exact Nat.mod_eq_of_lt (by omega)
  have h1 : (BitVec.ofInt 64 x &&& BitVec.ofInt 64 (m : Int)).toNat ≤ m := by
    rw [BitVec.toNat_and, h2]
    exact Nat.and_le_right
  have he : bits .and .i64 x (m : Int) = IntKind.i64.wrap ((BitVec.ofInt 64 x &&& BitVec.ofInt 64 (m : Int)).toNat : Int) := rfl
  rw [he, IntKind.wrap_i64]
  omega
end Go.Proofs.YtemjipongehjlaaGreat
/- Arguments that are lists of texts and of ints: opened. Plain; no conditions. -/
namespace Go.Proofs.YtemjipongehjlaaGreat
set_option linter.unusedVariables false
open Go.Joins Go.ChangeShapes Go.WideShapes Go.RowKit Go.Deep
set_option maxRecDepth 100000 in
theorem open_texts_arg {H : Type} {enc : TypeId × Value → H} {w : World} {base : Nat} {spare : Nat → Bool} {held : Bool} {r : Reach} {b0 : Nat} {v : Value} {d : DataW H} {p : List MemPlace} (hv : Value.okWide Tryz.prog w r b0 29 v) (h : DataW.Trod enc Tryz.prog w base spare held 29 v d p) :
    ∃ (A : Option Addr) (n c : Nat) (l : List ByteArray), v = .slice A n c ∧ n ≤ maxLen ∧ StrsAt w w.heap.size A n l := by
  obtain ⟨a0, len0, cap0, rfl⟩ := okWide_slice Tryz.underlying29 hv
  obtain ⟨fuel, hf⟩ := h
  rcases open_strings Tryz.underlying29 Tryz.underlying9 (by kernel_rfl) hf with ⟨e, _⟩ | ⟨a, len, cap, ss, e, hb, hlc, hc, hm, _, hcell, _⟩
  · have e := (List.cons.inj e).1
    exact ⟨none, 0, 0, [], e, Nat.zero_le _, Reads.nil⟩
  · have e := (List.cons.inj e).1
    have hle : len ≤ ss.length := by rw [hm]; split <;> omega
    refine ⟨some a, len, cap, ss.take len, e, Nat.le_trans hlc hc, ⟨by simp; omega, fun hn => ⟨a, rfl, ?_, fun j u hu => ?_⟩⟩⟩
    · have := World.block_lt_of_cell? w _ (hcell 0 (by omega))
      rwa [block_of_add] at this
    · rw [List.getElem?_map] at hu
      obtain ⟨s, hs, rfl⟩ := Option.map_eq_some_iff.1 hu
      have hj : j < len := by
        rcases Nat.lt_or_ge j len with h1 | h1
        · exact h1
        · rw [List.getElem?_eq_none (by simp; omega)] at hs; cases hs
      rw [List.getElem?_take, if_pos hj] at hs
      rw [hcell j (by omega), List.getD_eq_getElem?_getD, hs]
      rfl
set_option maxRecDepth 100000 in
theorem open_ints_arg {H : Type} {enc : TypeId × Value → H} {w : World} {base : Nat} {spare : Nat → Bool} {held : Bool} {r : Reach} {b0 : Nat} {v : Value} {d : DataW H} {p : List MemPlace} (hv : Value.okWide Tryz.prog w r b0 138 v) (h : DataW.Trod enc Tryz.prog w base spare held 138 v d p) :
    ∃ (A : Option Addr) (n c : Nat) (l : List Int), v = .slice A n c ∧ n ≤ maxLen ∧ IntsAt w w.heap.size A n l := by
  obtain ⟨a0, len0, cap0, rfl⟩ := okWide_slice Tryz.underlying138 hv
  obtain ⟨fuel, hf⟩ := h
  rcases open_ints Tryz.underlying138 Tryz.underlying3 (by kernel_rfl) hf with ⟨e, _⟩ | ⟨a, len, cap, ss, e, hb, hlc, hc, hm, _, hcell, _⟩
  · have e := (List.cons.inj e).1
    exact ⟨none, 0, 0, [], e, Nat.zero_le _, Reads.nil⟩
  · have e := (List.cons.inj e).1
    have hle : len ≤ ss.length := by rw [hm]; split <;> omega
    refine ⟨some a, len, cap, ss.take len, e, Nat.le_trans hlc hc, ⟨by simp; omega, fun hn => ⟨a, rfl, ?_, fun j u hu => ?_⟩⟩⟩
    · have := World.block_lt_of_cell? w _ (hcell 0 (by omega))
      rwa [block_of_add] at this
    · rw [List.getElem?_map] at hu
      obtain ⟨s, hs, rfl⟩ := Option.map_eq_some_iff.1 hu
      have hj : j < len := by
        rcases Nat.lt_or_ge j len with h1 | h1
        · exact h1
        · rw [List.getElem?_eq_none (by simp; omega)] at hs; cases hs
      rw [List.getElem?_take, if_pos hj] at hs
      rw [hcell j (by omega), List.getD_eq_getElem?_getD, hs]
      rfl
end Go.Proofs.YtemjipongehjlaaGreat
/- What the reference's Terminal, and SameInts, return. -/
namespace Go.Proofs.YtemjipongehjlaaGreat
set_option linter.unusedVariables false
open Go.RowKit Go.BigFrame
set_option maxRecDepth 100000 in
set_option maxHeartbeats 2000000 in
theorem refTerminal_any (id run tm st dn flt : Int) (raw : ByteArray) (A : Option Addr) (m cp : Nat) (ls : List P.Leg) (B : Nat) (w : World) (h : LegsAt w B A m ls) (hB : B ≤ w.heap.size) (hm : m ≤ maxLen) :
    Calls Tryz.prog 131 #[.agg #[.int .i64 id, .int .i64 run, .int .i64 tm, .int .i64 st, .int .i64 dn, .string raw, .int .i64 flt, .slice A m cp]] w fun x w' => x = .returned (.bool (P.terminal st ls)) ∧ Below w.heap.size w w' := by
  unfold maxLen at hm
  have hbel := (Below.refl w.heap.size w).alloc (Nat.le_refl _) (.cells #[.int .i64 id, .int .i64 run, .int .i64 tm, .int .i64 st, .int .i64 dn, .string raw, .int .i64 flt, .slice A m cp] 28)
  have k0 := Blk.new w 28 #[.int .i64 id, .int .i64 run, .int .i64 tm, .int .i64 st, .int .i64 dn, .string raw, .int .i64 flt, .slice A m cp]
  have H := Lib.hid h
  have BB := Lib.hid hbel
  have K0 := Lib.hid k0
  clear h hbel k0
  have key : ((st == 1) = true ∧ P.terminal st ls = true) ∨ ((st == 1) = false ∧ (st == 2) = true ∧ P.terminal st ls = true) ∨ ((st == 1) = false ∧ (st == 2) = false ∧ P.terminal st ls = (st == 3 && ls.all fun l => !l.isOpen)) := by
    unfold P.terminal
    cases (st == 1) <;> cases (st == 2) <;> simp
  rcases key with ⟨t1, ht⟩ | ⟨t1, t2, ht⟩ | ⟨t1, t2, ht⟩
  · have HT := Lib.hid ht
    clear ht
    go_enter Tryz.func131, Tryz.ntmps131
    go_wp2
    go_ret
    rw [HT.out]
    exact ⟨rfl, BB.out⟩
  · have HT := Lib.hid ht
    clear ht
    go_enter Tryz.func131, Tryz.ntmps131
    go_wp2
    go_ret
    rw [HT.out]
    exact ⟨rfl, BB.out⟩
  · have HT := Lib.hid ht
    clear ht
    go_enter Tryz.func131, Tryz.ntmps131
    go_wp2_with fail
    go_loopw [3] (fun x wr => ∃ k : Nat, k ≤ m ∧ x = .int .i64 k ∧ (∀ j l, j < k → ls[j]? = some l → l.isOpen = false) ∧ Below (w.heap.size + 1) (w.alloc (.cells #[.int .i64 id, .int .i64 run, .int .i64 tm, .int .i64 st, .int .i64 dn, .string raw, .int .i64 flt, .slice A m cp] 28)) wr) (fun x _ => m - (intOf x).toNat)
    case atStart => exact ⟨0, by omega, rfl, fun j l hj => by omega, Below.refl _ _⟩
    case round =>
      obtain ⟨k, hk, rfl, hno, hbel⟩ := hrel
      have Hno := Lib.hid hno
      have BW := Lib.hid (BB.out.trans (hbel.mono (by omega)))
      have HB := Lib.hid hbel
      have c0 := fun i => (K0.out.below hbel (by omega)).cell i
      clear hno hbel
      by_cases hlt : k < m
      · have t3 : decide ((k : Int) < (m : Int)) = true := by simp; omega
        obtain ⟨ad, l, rfl, hb, hl, hc⟩ := (H.out.below (BW.out.mono hB)).in_ hlt
        have HL := Lib.hid hl
        obtain ⟨l0, l1, l2, l3, l4, l5⟩ := hc
        clear hl
        rcases P.open_key l with ⟨ho, t4 | ⟨t4, t5⟩⟩ | ⟨ho, t4, t5⟩
        · have HR := Lib.hid (show P.terminal st ls = false from by
            rw [HT.out]
            have : (ls.all fun l => !l.isOpen) = false := by
              rw [List.all_eq_false]
              exact ⟨l, List.mem_of_getElem? HL.out, by simp [ho]⟩
            rw [this, Bool.and_false])
          clear ho
          go_wp2
          go_ret
          rw [HR.out]
          exact ⟨rfl, BW.out⟩
        · have HR := Lib.hid (show P.terminal st ls = false from by
            rw [HT.out]
            have : (ls.all fun l => !l.isOpen) = false := by
              rw [List.all_eq_false]
              exact ⟨l, List.mem_of_getElem? HL.out, by simp [ho]⟩
            rw [this, Bool.and_false])
          clear ho
          go_wp2
          go_ret
          rw [HR.out]
          exact ⟨rfl, BW.out⟩
        · have HN := Lib.hid (show ∀ j l, j < k + 1 → ls[j]? = some l → l.isOpen = false from fun j l2 hj hl2 => by
            rcases Nat.lt_or_ge j k with h1 | h1
            · exact Hno.out j l2 h1 hl2
            · have : j = k := by omega
              subst this
              rw [HL.out] at hl2
              cases hl2
              exact ho)
          clear ho
          go_wp2
          go_roundw
          case rel => exact ⟨k + 1, by omega, by go_num, HN.out, HB.out⟩
          case measure => simp [intOf]; omega
      · have t3 : decide ((k : Int) < (m : Int)) = false := by simp; omega
        have hkm : k = m := by omega
        have HR := Lib.hid (show (st == 3) = P.terminal st ls from by
          rw [HT.out]
          have : (ls.all fun l => !l.isOpen) = true := by
            rw [List.all_eq_true]
            intro l hl
            obtain ⟨j, hj⟩ := List.getElem?_of_mem hl
            have hjl : j < ls.length := by
              rcases Nat.lt_or_ge j ls.length with h1 | h1
              · exact h1
              · rw [List.getElem?_eq_none h1] at hj; cases hj
            rw [Hno.out j l (by have := H.out.len; omega) hj]
            rfl
          rw [this, Bool.and_true])
        clear hkm
        go_wp2
        go_ret
        rw [← HR.out]
        exact ⟨rfl, BW.out⟩
set_option maxRecDepth 100000 in
set_option maxHeartbeats 1000000 in
theorem sameInts_any (A A2 : Option Addr) (n c c2 B : Nat) (l : List Int) (w : World) (h : IntsAt w B A n l) (h2 : IntsAt w B A2 n l) (hB : B ≤ w.heap.size) (hn : n ≤ maxLen) :
    Calls Tryz.prog 132 #[.slice A n c, .slice A2 n c2] w fun x w' => x = .returned (.bool true) ∧ Below w.heap.size w w' := by
  unfold maxLen at hn
  have H := Lib.hid h
  have H2 := Lib.hid h2
  clear h h2
  have t0 : ((n : Int) != (n : Int)) = false := by simp
  go_enter Tryz.func132, Tryz.ntmps132
  go_wp2_with fail
  go_loopw [5] (fun x wr => ∃ k : Nat, k ≤ n ∧ x = .int .i64 k ∧ Below w.heap.size w wr) (fun x _ => n - (intOf x).toNat)
  case atStart => exact ⟨0, by omega, rfl, Below.refl _ _⟩
  case round =>
    obtain ⟨k, hk, rfl, hbel⟩ := hrel
    have HB := Lib.hid hbel
    clear hbel
    by_cases hlt : k < n
    · have t1 : decide ((k : Int) < (n : Int)) = true := by simp; omega
      obtain ⟨ad, x, rfl, hb, hl, hc⟩ := (H.out.below (HB.out.mono hB)).in_ hlt
      obtain ⟨ad2, y, rfl, hb2, hl2, hc2⟩ := (H2.out.below (HB.out.mono hB)).in_ hlt
      obtain rfl : y = x := Option.some.inj (hl2.symm.trans hl)
      have t2 : (y == y) = true := by simp
      clear hl hl2
      go_wp2_with fail
      go_quiet (fail)
      go_wp2
      go_roundw
      case rel => exact ⟨k + 1, by omega, by go_num, below_drewN HB.out _⟩
      case measure => simp [intOf]; omega
    · have t1 : decide ((k : Int) < (n : Int)) = false := by simp; omega
      go_wp2
      go_ret
      exact ⟨rfl, HB.out⟩
end Go.Proofs.YtemjipongehjlaaGreat
