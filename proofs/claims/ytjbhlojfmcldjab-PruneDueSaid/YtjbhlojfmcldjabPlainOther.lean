/- What a verdict leaves of the other chains. No Go in sight. -/
import Derived.Test.YtjbhlojfmcldjabMov
import Derived.Test.YtjbhlojfmcldjabPlainChains
namespace Go.Proofs.Ytjbhlojfmcldjab.P
set_option linter.unusedVariables false
theorem set_get {α : Type} {l : List α} {k j : Nat} {x : α} (h : j ≠ k) : (l.set k x)[j]? = l[j]? := by
  rw [List.getElem?_set_ne (fun e => h e.symm)]
theorem Lined.at2 {ds : List Dest} {ls : List Leg} (h : Lined ds ls) {k : Nat} {d : Dest} (hd : ds[k]? = some d) : legAt ls d.name = some k := by
  obtain ⟨l, _, h2⟩ := h.at_ hd
  exact h2
theorem Lined.set_ {ds : List Dest} {ls : List Leg} (h : Lined ds ls) {k : Nat} {l l' : Leg} (hl : ls[k]? = some l) (hn : l'.name = l.name) : Lined ds (ls.set k l') := by
  refine ⟨by rw [List.length_set]; exact h.len, fun i d x hd hx => ?_, h.apart⟩
  by_cases hik : i = k
  · subst hik
    have hi : i < ls.length := by
      rcases Nat.lt_or_ge i ls.length with h1 | h1
      · exact h1
      · rw [List.getElem?_eq_none h1] at hl; cases hl
    rw [List.getElem?_set_self hi] at hx
    cases hx
    rw [hn]
    exact h.same i d l hd hl
  · rw [set_get hik] at hx
    exact h.same i d x hd hx
/-- The legs of all chains but one are as they were. -/
structure But (ds : List Dest) (ch : Int) (ls ls' : List Leg) : Prop where
  lined : Lined ds ls'
  same : ∀ (i : Nat) (d : Dest), ds[i]? = some d → d.chain ≠ ch → ls'[i]? = ls[i]?
theorem But.refl {ds : List Dest} {ch : Int} {ls : List Leg} (h : Lined ds ls) : But ds ch ls ls := ⟨h, fun _ _ _ _ => rfl⟩
theorem But.set_ {ds : List Dest} {ch : Int} {ls ls' : List Leg} (h : But ds ch ls ls') {k : Nat} {d : Dest} {l l' : Leg} (hd : ds[k]? = some d) (hc : d.chain = ch) (hl : ls'[k]? = some l) (hn : l'.name = l.name) : But ds ch ls (ls'.set k l') := by
  refine ⟨h.lined.set_ hl hn, fun i e he hne => ?_⟩
  have hik : i ≠ k := fun e' => by
    subst e'
    rw [hd] at he
    cases he
    exact hne hc
  rw [set_get hik]
  exact h.same i e he hne
theorem But.failLegs {ds : List Dest} {ch : Int} {ls ls' : List Leg} (h : But ds ch ls ls') {k : Nat} {o : Dest} (ho : ds[k]? = some o) (bh : Bool) : But ds ch ls (P.failLegs (bh && (o.chain == ch)) ls' o.name) := by
  rcases failLegs_key bh (o.chain == ch) ls' o.name with ⟨_, he⟩ | ⟨_, _, he⟩ | ⟨_, _, _, he⟩ | ⟨i, l, _, hc, hi, hil, hl, ⟨_, he⟩ | ⟨_, he⟩⟩
  · rw [he]; exact h
  · rw [he]; exact h
  · rw [he]; exact h
  · rw [he]; exact h
  · rw [he]
    have h2 := h.lined.at2 ho
    have hik : i = k := by
      unfold legI at hi
      rw [h2] at hi
      simp at hi
      omega
    subst hik
    exact h.set_ ho (by simpa using hc) hl rfl
theorem But.failed {ds : List Dest} {ls ls' : List Leg} {d : Dest} (h : But ds d.chain ls ls') : But ds d.chain ls (failed ds d ls') := by
  have key : ∀ k, k ≤ ds.length → But ds d.chain ls (failTo ds d ls' k).2 := fun k => by
    induction k with
    | zero => exact fun _ => h
    | succ k ih =>
      intro hk
      have ho : ds[k]? = some ds[k] := List.getElem?_eq_getElem (by omega)
      rw [failTo_step ho]
      exact (ih (by omega)).failLegs ho _
  rw [← failTo_all (Nat.le_refl ds.length)]
  exact key _ (Nat.le_refl _)
/-- The chain of the destination that is named, as a loop finds it. -/
def chainTo (ds : List Dest) (dest : ByteArray) (k : Nat) : Int := (ds.take k).foldl (fun c d => if (d.name.toList == dest.toList) = true then d.chain else c) (-1)
theorem chainTo_step {ds : List Dest} {dest : ByteArray} {k : Nat} {d : Dest} (h : ds[k]? = some d) : chainTo ds dest (k + 1) = if (d.name.toList == dest.toList) = true then d.chain else chainTo ds dest k := by
  unfold chainTo
  rw [List.take_add_one, h, List.foldl_append]
  rfl
theorem chainTo_at {ds : List Dest} {ls : List Leg} (h : Lined ds ls) {dest : ByteArray} {kd : Nat} {d : Dest} (hd : ds[kd]? = some d) (hn : d.name = dest) : ∀ k, k ≤ ds.length → chainTo ds dest k = if kd < k then d.chain else -1
  | 0, _ => rfl
  | k + 1, hk => by
    have ho : ds[k]? = some ds[k] := List.getElem?_eq_getElem (by omega)
    rw [chainTo_step ho, chainTo_at h hd hn k (by omega)]
    by_cases hkk : k = kd
    · subst hkk
      rw [ho] at hd
      cases hd
      rw [if_pos (by rw [hn]; simp), if_pos (by omega)]
    · have hne : (ds[k].name.toList == dest.toList) = false := by
        rw [← hn, ByteArray.toList_eq, ByteArray.toList_eq, beq_eq_false_iff_ne]
        rcases Nat.lt_or_gt_of_ne hkk with h1 | h1
        · exact h.apart k kd _ _ h1 ho hd
        · exact fun e => h.apart kd k _ _ h1 hd ho e.symm
      rw [hne]
      simp only [Bool.false_eq_true, if_false]
      by_cases h1 : kd < k
      · rw [if_pos h1, if_pos (by omega)]
      · rw [if_neg h1, if_neg (by omega)]
/-- A verdict's function leaves the other chains. -/
def Keeps (ds : List Dest) (F : List Leg → Nat → Leg → Dest → List Leg) : Prop := ∀ (ls ls' : List Leg) (k : Nat) (l : Leg) (d : Dest), Lined ds ls → But ds d.chain ls ls' → ds[k]? = some d → ls'[k]? = some l → But ds d.chain ls (F ls' k l d)
theorem keeps_fail (ds : List Dest) : Keeps ds (failTurn ds) := fun ls ls' k l d _ hb hd hl => (hb.set_ (l' := { l with status := 4, due := 0 }) hd rfl hl rfl).failed
theorem keeps_tried (now : Int) (ds : List Dest) : Keeps ds (triedTurn now ds) := fun ls ls' k l d h hb hd hl => by
  rcases triedTurn_key now ds ls' k l d with ⟨_, he⟩ | ⟨_, _, he⟩ | ⟨_, _, he⟩
  · rw [he]; exact hb.set_ hd rfl hl rfl
  · rw [he]; exact hb.set_ hd rfl hl rfl
  · rw [he]; exact keeps_fail ds ls ls' k l d h hb hd hl
def sentTurn (ls : List Leg) (k : Nat) (l : Leg) (d : Dest) : List Leg := ls.set k (sentLeg l)
theorem keeps_sent (ds : List Dest) : Keeps ds sentTurn := fun ls ls' k l d _ hb hd hl => hb.set_ hd rfl hl rfl
theorem turned_moved (state : Int) (ds : List Dest) (ls : List Leg) (dest reply : ByteArray) : turned sentLeg state ds ls dest reply = movedTo sentTurn state ds ls dest reply := by
  cases hb : hasS (next state ds ls) dest
  · rw [turned_no hb, movedTo_no hb]
  · obtain ⟨_, ⟨k, l, hk, _, hl, _, _⟩, kd, d, hkd, _, hd, _⟩ := turned_key hb
    rw [turned_yes hb hk hl, movedTo_yes hb hk hl hkd hd, sentTurn, List.set_set]
theorem destAt_name {ds : List Dest} {dest : ByteArray} {kd : Nat} {d : Dest} (h : destAt ds dest = some kd) (hd : ds[kd]? = some d) : d.name = dest := by
  unfold destAt at h
  obtain ⟨hk, hp, _⟩ := List.findIdx?_eq_some_iff_getElem.1 h
  rw [List.getElem?_eq_getElem hk] at hd
  cases hd
  exact bytes_eq (by simpa using hp)
/-- Behind a verdict the legs of the other chains are as they were. -/
theorem moved_but {F : List Leg → Nat → Leg → Dest → List Leg} {state : Int} {ds : List Dest} {ls : List Leg} {dest reply : ByteArray} (h : Lined ds ls) (hF : Keeps ds F) : But ds (chainTo ds dest ds.length) ls (movedTo F state ds ls dest reply) := by
  cases hb : hasS (next state ds ls) dest
  · rw [movedTo_no hb]
    exact But.refl h
  · obtain ⟨_, ⟨k, l, hk, _, hl, _, hkl⟩, kd, d, hkd, _, hd, hkdl⟩ := turned_key hb
    have hn := destAt_name hkd hd
    have h2 := h.at2 hd
    rw [hn, hk] at h2
    obtain rfl : k = kd := Option.some.inj h2
    rw [movedTo_yes hb hk hl hkd hd, chainTo_at h hd hn _ (Nat.le_refl _), if_pos hkdl]
    exact hF ls _ k _ d h ((But.refl h).set_ hd rfl hl rfl) hd (by rw [List.getElem?_set_self hkl])
end Go.Proofs.Ytjbhlojfmcldjab.P
