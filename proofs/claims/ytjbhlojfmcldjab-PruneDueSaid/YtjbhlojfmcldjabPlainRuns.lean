/- What a verdict makes of a row's legs: they go forward alone, and those that are done stay. No Go in sight. -/
import Derived.Test.YtjbhlojfmcldjabPlainOther
import Derived.Test.YtjbhlojfmcldjabPlainChains2
import Derived.Test.YtjbhlojfmcldjabPlainForward
namespace Go.Proofs.Ytjbhlojfmcldjab.P
set_option linter.unusedVariables false
/-- May a leg become another one? -/
def Ok (x y : Leg) : Prop := y = x ∨ (x.isOpen = true ∧ y.name = x.name ∧ (y.status = 1 → x.status = 1) ∧ 0 ≤ y.status ∧ y.status ≤ 4 ∧ x.tries ≤ y.tries ∧ y.tries ≤ 9223372036854775807)
theorem open_status {x : Leg} (h : x.isOpen = true) : x.status = 1 ∨ x.status = 2 := by
  unfold Leg.isOpen at h
  simpa using h
theorem status_open {x : Leg} (h : x.status = 1 ∨ x.status = 2) : x.isOpen = true := by
  unfold Leg.isOpen
  simpa using h
theorem Ok.trans {x y z : Leg} (h : Ok x y) (k : Ok y z) : Ok x z := by
  rcases h with rfl | ⟨h1, h2, h3, h4, h5, h6, h7⟩
  · exact k
  · rcases k with rfl | ⟨k1, k2, k3, k4, k5, k6, k7⟩
    · exact Or.inr ⟨h1, h2, h3, h4, h5, h6, h7⟩
    · exact Or.inr ⟨h1, k2.trans h2, fun h => h3 (k3 h), k4, k5, Int.le_trans h6 k6, k7⟩
theorem Ok.may {x y : Leg} (h : Ok x y) : mayLeg x y = true := by
  rcases h with rfl | ⟨h1, h2, h3, h4, h5, h6, h7⟩
  · exact mayLeg_refl _
  · unfold mayLeg
    rw [h2]
    have := open_status h1
    simp only [Bool.and_eq_true, Bool.or_eq_true, beq_iff_eq, decide_eq_true_eq]
    refine ⟨trivial, ?_⟩
    omega
theorem Ok.sent {x y : Leg} (h : Ok x y) (hs : x.status = 3) : y = x := by
  rcases h with h | ⟨h1, _⟩
  · exact h
  · have := open_status h1
    omega
theorem Ok.shut {x y : Leg} (h : Ok x y) (hs : x.isOpen = false) : y.isOpen = false := by
  rcases h with rfl | ⟨h1, _⟩
  · exact hs
  · rw [hs] at h1; cases h1
def OkAll : List Leg → List Leg → Prop
  | [], [] => True
  | x :: xs, y :: ys => Ok x y ∧ OkAll xs ys
  | _, _ => False
theorem OkAll.refl : ∀ l : List Leg, OkAll l l
  | [] => trivial
  | x :: l => ⟨Or.inl rfl, OkAll.refl l⟩
theorem OkAll.trans : ∀ {a b c : List Leg}, OkAll a b → OkAll b c → OkAll a c
  | [], [], [], _, _ => trivial
  | [], [], _ :: _, _, h => h.elim
  | [], _ :: _, _, h, _ => h.elim
  | _ :: _, [], _, h, _ => h.elim
  | _ :: _, _ :: _, [], _, h => h.elim
  | x :: a, y :: b, z :: c, ⟨h1, h2⟩, ⟨k1, k2⟩ => ⟨h1.trans k1, h2.trans k2⟩
theorem OkAll.set_ : ∀ {a : List Leg} {k : Nat} {l l' : Leg}, a[k]? = some l → Ok l l' → OkAll a (a.set k l')
  | [], k, l, l', h, _ => by simp at h
  | x :: a, 0, l, l', h, ho => by
    simp at h
    subst h
    exact ⟨ho, OkAll.refl a⟩
  | x :: a, k + 1, l, l', h, ho => ⟨Or.inl rfl, OkAll.set_ (by simpa using h) ho⟩
theorem OkAll.len : ∀ {a b : List Leg}, OkAll a b → b.length = a.length
  | [], [], _ => rfl
  | [], _ :: _, h => h.elim
  | _ :: _, [], h => h.elim
  | x :: a, y :: b, ⟨_, h⟩ => by simp [h.len]
theorem OkAll.get : ∀ {a b : List Leg} {k : Nat} {x y : Leg}, OkAll a b → a[k]? = some x → b[k]? = some y → Ok x y
  | [], _, k, x, y, _, h, _ => by simp at h
  | _ :: _, [], k, x, y, h, _, _ => h.elim
  | u :: a, v :: b, 0, x, y, ⟨h, _⟩, hx, hy => by
    simp at hx hy
    subst hx hy
    exact h
  | u :: a, v :: b, k + 1, x, y, ⟨_, h⟩, hx, hy => OkAll.get h (by simpa using hx) (by simpa using hy)
theorem OkAll.may : ∀ {a b : List Leg}, OkAll a b → mayLegs a b = true
  | [], [], _ => rfl
  | [], _ :: _, h => h.elim
  | _ :: _, [], h => h.elim
  | x :: a, y :: b, ⟨h1, h2⟩ => by simp [mayLegs, h1.may, h2.may]
/-- How many legs are not open. -/
def shutN (l : List Leg) : Nat := l.countP fun x => !x.isOpen
theorem OkAll.shutN_le : ∀ {a b : List Leg}, OkAll a b → shutN a ≤ shutN b
  | [], [], _ => Nat.le_refl _
  | [], _ :: _, h => h.elim
  | _ :: _, [], h => h.elim
  | x :: a, y :: b, ⟨h1, h2⟩ => by
    have ih := h2.shutN_le
    unfold shutN at *
    rw [List.countP_cons, List.countP_cons]
    cases hx : x.isOpen
    · rw [h1.shut hx]
      simp
      exact ih
    · cases hy : y.isOpen <;> simp <;> omega
theorem shutN_set : ∀ {a : List Leg} {k : Nat} {l l' : Leg}, a[k]? = some l → l.isOpen = true → l'.isOpen = false → shutN (a.set k l') = shutN a + 1
  | [], k, l, l', h, _, _ => by simp at h
  | x :: a, 0, l, l', h, ho, hs => by
    simp at h
    subst h
    unfold shutN
    rw [List.set_cons_zero, List.countP_cons, List.countP_cons, ho, hs]
    simp
  | x :: a, k + 1, l, l', h, ho, hs => by
    have ih := shutN_set (a := a) (k := k) (l := l) (l' := l') (by simpa using h) ho hs
    unfold shutN at *
    rw [List.set_cons_succ, List.countP_cons, List.countP_cons, ih]
    omega
theorem shutN_le_len (a : List Leg) : shutN a ≤ a.length := List.countP_le_length
theorem ok_mk {x : Leg} (y : Leg) (s : Int) (h : x.isOpen = true) (hn : y.name = x.name) (hs : y.status = s) (h1 : s ≠ 1) (h0 : 0 ≤ s) (h4 : s ≤ 4) (ht : y.tries = x.tries) (hx : x.tries ≤ 9223372036854775807) : Ok x y :=
  Or.inr ⟨h, hn, fun e => absurd (hs.symm.trans e) h1, by omega, by omega, by omega, by omega⟩
theorem ok_out {l : Leg} (h : l.isOpen = true) (ht : l.tries ≤ 9223372036854775807) : Ok l (leftOut l) := ok_mk _ 0 h rfl rfl (by decide) (by decide) (by decide) rfl ht
/-- Each leg's numbers are small enough. -/
def Fine (l : List Leg) : Prop := ∀ x ∈ l, 0 ≤ x.status ∧ x.status ≤ 4 ∧ 0 ≤ x.tries ∧ x.tries ≤ 9223372036854775807
theorem Fine.at_ {l : List Leg} (h : Fine l) {k : Nat} {x : Leg} (hx : l[k]? = some x) : 0 ≤ x.status ∧ x.status ≤ 4 ∧ 0 ≤ x.tries ∧ x.tries ≤ 9223372036854775807 := h x (List.mem_of_getElem? hx)
theorem OkAll.fine {a b : List Leg} (h : OkAll a b) (hf : Fine a) : Fine b := by
  intro y hy
  obtain ⟨k, hk⟩ := List.getElem?_of_mem hy
  have hkb : k < b.length := by
    rcases Nat.lt_or_ge k b.length with h1 | h1
    · exact h1
    · rw [List.getElem?_eq_none h1] at hk; cases hk
  have hx := List.getElem?_eq_getElem (l := a) (i := k) (by rw [← h.len]; exact hkb)
  have hfx := hf.at_ hx
  rcases h.get hx hk with rfl | ⟨h1, h2, h3, h4, h5, h6, h7⟩
  · exact hfx
  · exact ⟨h4, h5, by omega, h7⟩
theorem ok_failLegs {ls : List Leg} (hf : Fine ls) (may : Bool) (name : ByteArray) : OkAll ls (failLegs may ls name) := by
  unfold failLegs
  split
  · split
    · rename_i i hi
      split
      · rename_i l hl
        split
        · rename_i ho
          exact OkAll.set_ hl (ok_out ho (hf.at_ hl).2.2.2)
        · exact OkAll.refl _
      · exact OkAll.refl _
    · exact OkAll.refl _
  · exact OkAll.refl _
theorem ok_failTo {ds : List Dest} {d : Dest} {ls : List Leg} (hf : Fine ls) : ∀ k, k ≤ ds.length → OkAll ls (failTo ds d ls k).2
  | 0, _ => OkAll.refl _
  | k + 1, hk => by
    have ih := ok_failTo (ds := ds) (d := d) hf k (by omega)
    rw [failTo_step (List.getElem?_eq_getElem (by omega : k < ds.length))]
    exact ih.trans (ok_failLegs (ih.fine hf) _ _)
theorem ok_failed {ds : List Dest} {d : Dest} {ls : List Leg} (hf : Fine ls) : OkAll ls (failed ds d ls) := by
  rw [← failTo_all (Nat.le_refl ds.length)]
  exact ok_failTo hf _ (Nat.le_refl _)
theorem add_ge {a : Int} (h : 0 ≤ a) (h1 : a ≤ 9223372036854775807) : a ≤ add a 1 ∧ add a 1 ≤ 9223372036854775807 := by
  unfold add
  split <;> omega
theorem ok_touch {l : Leg} (reply : ByteArray) (h : l.isOpen = true) (h0 : 0 ≤ l.status ∧ l.status ≤ 4 ∧ 0 ≤ l.tries ∧ l.tries ≤ 9223372036854775807) : Ok l (touch l reply) := by
  obtain ⟨a1, a2, a3, a4⟩ := h0
  obtain ⟨b1, b2⟩ := add_ge a3 a4
  exact Or.inr ⟨h, rfl, fun h => h, a1, a2, b1, b2⟩
/-- What a verdict's function makes of an open leg, and of the others. -/
def Turn (F : List Leg → Nat → Leg → Dest → List Leg) : Prop := ∀ (ls : List Leg) (k : Nat) (l : Leg) (d : Dest), Fine ls → ls[k]? = some l → l.isOpen = true → OkAll ls (F ls k l d)
/-- And it shuts it. -/
def Shuts (F : List Leg → Nat → Leg → Dest → List Leg) : Prop := ∀ (ls : List Leg) (k : Nat) (l : Leg) (d : Dest), Fine ls → ls[k]? = some l → l.isOpen = true → shutN ls + 1 ≤ shutN (F ls k l d)
theorem turn_sent : Turn sentTurn := fun ls k l d hf hl ho => OkAll.set_ hl (ok_mk (sentLeg l) 3 ho rfl rfl (by decide) (by decide) (by decide) rfl (hf.at_ hl).2.2.2)
theorem shuts_sent : Shuts sentTurn := fun ls k l d hf hl ho => by
  unfold sentTurn
  rw [shutN_set hl ho (by rfl)]
  exact Nat.le_refl _
theorem ok_err {l : Leg} (h : l.isOpen = true) (ht : l.tries ≤ 9223372036854775807) : Ok l { l with status := 4, due := 0 } := ok_mk _ 4 h rfl rfl (by decide) (by decide) (by decide) rfl ht
theorem turn_fail (ds : List Dest) : Turn (failTurn ds) := fun ls k l d hf hl ho => by
  have h1 := OkAll.set_ hl (ok_err ho (hf.at_ hl).2.2.2)
  exact h1.trans (ok_failed (h1.fine hf))
theorem shuts_fail (ds : List Dest) : Shuts (failTurn ds) := fun ls k l d hf hl ho => by
  have h1 := OkAll.set_ hl (ok_err ho (hf.at_ hl).2.2.2)
  have h2 := (ok_failed (ds := ds) (d := d) (h1.fine hf)).shutN_le
  rw [shutN_set (l' := { l with status := 4, due := 0 }) hl ho (by rfl)] at h2
  exact h2
theorem turn_tried (now : Int) (ds : List Dest) : Turn (triedTurn now ds) := fun ls k l d hf hl ho => by
  have h1 : Ok l { l with status := 2, due := dueAt now d.backoff l.tries } := ok_mk _ 2 ho rfl rfl (by decide) (by decide) (by decide) rfl (hf.at_ hl).2.2.2
  rcases triedTurn_key now ds ls k l d with ⟨_, he⟩ | ⟨_, _, he⟩ | ⟨_, _, he⟩
  · rw [he]; exact OkAll.set_ hl h1
  · rw [he]; exact OkAll.set_ hl h1
  · rw [he]; exact turn_fail ds ls k l d hf hl ho
/-- Behind a verdict on what is next. -/
theorem moved_step {F : List Leg → Nat → Leg → Dest → List Leg} {ds : List Dest} {ls : List Leg} {dest reply : ByteArray} (hf : Fine ls) (hh : hasS (next 3 ds ls) dest = true) (hF : Turn F) :
    OkAll ls (movedTo F 3 ds ls dest reply) ∧ (Shuts F → shutN ls + 1 ≤ shutN (movedTo F 3 ds ls dest reply)) := by
  obtain ⟨_, ⟨k, l, hk, _, hl, ho, hkl⟩, kd, d, hkd, _, hd, _⟩ := turned_key hh
  rw [movedTo_yes hh hk hl hkd hd]
  have h1 := OkAll.set_ hl (ok_touch reply ho (hf.at_ hl))
  have hg : (ls.set k (touch l reply))[k]? = some (touch l reply) := by rw [List.getElem?_set_self hkl]
  have ho2 : (touch l reply).isOpen = true := ho
  exact ⟨h1.trans (hF _ k _ d (h1.fine hf) hg ho2), fun hS => Nat.le_trans (Nat.succ_le_succ h1.shutN_le) (hS _ k _ d (h1.fine hf) hg ho2)⟩
theorem legsOf_fine (ds : List Dest) (routes : List ByteArray) (payload : ByteArray) : Fine (legsOf ds routes payload) := by
  intro x hx
  unfold legsOf at hx
  obtain ⟨d, _, rfl⟩ := List.mem_map.1 hx
  unfold legOf
  split <;> simp
theorem legsOf_lined {ds : List Dest} (routes : List ByteArray) (payload : ByteArray) (h : ∀ (i j : Nat) (d e : Dest), i < j → ds[i]? = some d → ds[j]? = some e → d.name.data.toList ≠ e.name.data.toList) : Lined ds (legsOf ds routes payload) := by
  refine ⟨by simp [legsOf], fun i d l hd hl => ?_, h⟩
  unfold legsOf at hl
  rw [List.getElem?_map, hd] at hl
  simp at hl
  subst hl
  unfold legOf
  split <;> rfl
theorem mem_hasS {l : List ByteArray} {x : ByteArray} (h : x ∈ l) : hasS l x = true := by
  unfold hasS
  rw [List.any_eq_true]
  exact ⟨x, h, by simp⟩
end Go.Proofs.Ytjbhlojfmcldjab.P
