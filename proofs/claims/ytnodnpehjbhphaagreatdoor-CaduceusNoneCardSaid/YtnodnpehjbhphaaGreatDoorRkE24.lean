/- A function's body; calls. Plain lemmas. -/
import Derived.Test.YtnodnpehjbhphaaGreatDoorRkE23
namespace Go.Proofs.YtnodnpehjbhphaaGreatDoor.Rk
open Go
set_option linter.unusedVariables false
def DM (ρ : Env) : Option AV → FrameMode → Prop
  | none, .returning => True
  | some v, .panicking ch => ∃ v', ch = [{ v := v', recovered := false }] ∧ VR ρ v v'
  | _, _ => False
theorem DM.mono {ρ ρ' : Env} {p : Option AV} {u : FrameMode} (h : DM ρ p u) (hr : ρ.le ρ') : DM ρ' p u := by
  cases p <;> cases u <;> try exact h
  obtain ⟨v', h1, h2⟩ := h
  exact ⟨v', h1, h2.mono hr⟩
theorem DM.run {ρ : Env} {p : Option AV} {u : FrameMode} (h : DM ρ p u) : u ≠ .run := by
  rintro rfl
  cases p <;> exact h
/-- What a deferred call is said to leave is so. -/
def DSound (P : Program) (D : DCallee) : Prop := ∀ f args p s p' s', D f args p s = some (p', s') → WfS s → Mono s s' ∧ ∀ (ρ : Env) (T : Nat → Nat → Prop) (w : World) (vs : Array Value) (u : FrameMode), Pre ρ T s s' w → VRL ρ args vs.toList → DM ρ p u →
  (∀ w1, (callFunc f vs).run P w1 = .ok (.enter f vs) w1) ∧ ∀ n, CallsDIn Fence.wide n P f vs u w (fun e u' w' => (∃ v, e = .returned v) ∧ ∃ ρ', Post ρ T s w ρ' s' w' ∧ DM ρ' p' (settle u'))
section
variable {P : Program} {D : DCallee} {C : Callee}
theorem runDefs_mono (hD : DSound P D) : ∀ {l : List DE} {p p' : Option AV} {s s' : St}, runDefs D l p s = some (p', s') → WfS s → Mono s s'
  | [], p, p', s, s', h, _ => by cases h; exact Mono.refl _
  | .mark b :: l, p, p', s, s', h, hwf => by
    unfold runDefs at h
    split at h
    · rename_i hb
      have m1 : Mono s ((s.put b .dead).note (.all b)) := Mono.put_note _ _ _ ⟨_, hb, trivial⟩
      exact m1.trans (runDefs_mono hD h (m1.wf hwf))
    · cases h
  | .fn f args :: l, p, p', s, s', h, hwf => by
    unfold runDefs at h
    split at h
    · rename_i h1
      have m1 := (hD _ _ _ _ _ _ h1 hwf).1
      exact m1.trans (runDefs_mono hD h (m1.wf hwf))
    · cases h
theorem runDefs_ok (hD : DSound P D) {n : Nat} {fn : Func} {tmps : Array Value} {R : Ending → World → Prop} : ∀ {l : List DE} {ds : List Deferred} {p p' : Option AV} {s s' : St} {ρ : Env} {T : Nat → Nat → Prop} {w : World} {u : FrameMode}, runDefs D l p s = some (p', s') → Pre ρ T s s' w → DefsR ρ l ds → DM ρ p u →
    (∀ ρ' w' u', Post ρ T s w ρ' s' w' → DM ρ' p' u' → LeavesIn Fence.wide n P fn tmps R [] u' w') → LeavesInM Fence.wide n P fn tmps R ds u w
  | [], ds, p, p', s, s', ρ, T, w, u, h, hp, hd, hu, hk => by
    cases h
    cases hd
    exact hk ρ w u (Post.refl hp) hu
  | .mark b :: l, ds, p, p', s, s', ρ, T, w, u, h, hp, hd, hu, hk => by
    unfold runDefs at h
    split at h
    · rename_i hb
      cases hd with
      | cons _ d _ ds hd1 hd2 =>
      cases hd1 with
      | mark _ r hr =>
      have m1 : Mono s ((s.put b .dead).note (.all b)) := Mono.put_note _ _ _ ⟨_, hb, trivial⟩
      have m2 := runDefs_mono hD h (m1.wf hp.wf)
      have hT : ∃ i, T b i := ⟨0, hp.cov (.all b) (m2.log _ (List.mem_cons_self ..)) (lt_n hp.wf hb) b 0 rfl⟩
      obtain ⟨r1, h1, h2⟩ := hp.good.sat b _ hb hT
      have : r1 = r := Option.some.inj (h1.symm.trans hr)
      subst this
      have post1 : Post ρ T s w ρ ((s.put b .dead).note (.all b)) (w.putObj r1.blk (.deferred none)) := Post.alt (x' := .dead) hp.good hb trivial hT hr (alt_put w _ h2) trivial
      refine ⟨hu.run, .inl ⟨r1.blk, _, rfl, run_takeDeferred h2, ?_⟩⟩
      exact runDefs_ok hD h (hp.next m1 m2 post1) hd2 hu (fun ρ' w' u' hpost hu' => hk ρ' w' u' (Post.trans m1 m2 post1 hpost) hu')
    · cases h
  | .fn f args :: l, ds, p, p', s, s', ρ, T, w, u, h, hp, hd, hu, hk => by
    unfold runDefs at h
    split at h
    · rename_i p1 s1 h1
      cases hd with
      | cons _ d _ ds hd1 hd2 =>
      cases hd1 with
      | fn _ _ cap as hargs =>
      obtain ⟨m1, k1⟩ := hD _ _ _ _ _ _ h1 hp.wf
      have m2 := runDefs_mono hD h (m1.wf hp.wf)
      obtain ⟨he, hc⟩ := k1 ρ T w (as ++ cap) u (hp.first m2) hargs hu
      refine ⟨hu.run, .inr ⟨fun hh => by simp [Fence.wide] at hh, .func f, cap, f, as ++ cap, rfl, he w, fun _ _ => trivial, trivial, fun c cs hcu hroom => ?_⟩⟩
      obtain ⟨_, hc'⟩ := hc (n - 1)
      obtain ⟨e, u', w', fr, ⟨⟨v, hv⟩, ρ', hpost, hu'⟩, hrest⟩ := hc' c cs hcu hroom
      subst hv
      exact ⟨.returned v, u', w', fr, runDefs_ok hD h (hp.next m1 m2 hpost) (hd2.mono hpost.ext) hu' (fun ρ2 w2 u2 hpost2 hu2 => hk ρ2 w2 u2 (Post.trans m1 m2 hpost hpost2) hu2), hrest⟩
    · cases h
-- ## the beginning
theorem initT_sz : ∀ (l : List AV) (i : Nat) (aa : AAct), (initT l i aa).sz = aa.sz ∧ (initT l i aa).defs = aa.defs
  | [], i, aa => ⟨rfl, rfl⟩
  | v :: l, i, aa => by
    obtain ⟨h1, h2⟩ := initT_sz l (i + 1) (aa.putT i v)
    have : (aa.putT i v).sz = aa.sz ∧ (aa.putT i v).defs = aa.defs := by unfold AAct.putT; split <;> exact ⟨rfl, rfl⟩
    exact ⟨h1.trans this.1, h2.trans this.2⟩
theorem initT_ok {ρ : Env} : ∀ (l : List AV) (vs : List Value) (i : Nat) (aa : AAct) (ts : Array Value), VRL ρ l vs → ActR ρ aa { tmps := ts, defers := [] } → ActR ρ (initT l i aa) { tmps := (vs.zipIdx i).foldl (fun ts p => ts.setIfInBounds p.2 p.1) ts, defers := [] }
  | [], _, i, aa, ts, .nil, h => h
  | x :: l, _, i, aa, ts, .cons _ v _ vs hx ht, h => by
    exact initT_ok l vs (i + 1) (aa.putT i x) (ts.setIfInBounds i v) ht (h.putT i hx)
theorem fold_set : ∀ (vs : List Value) (i : Nat) (ts : Array Value), i + vs.length ≤ ts.size → (∀ j, ((vs.zipIdx i).foldl (fun ts p => ts.setIfInBounds p.2 p.1) ts)[j]? = if i ≤ j ∧ j < i + vs.length then vs[j - i]? else ts[j]?)
  | [], i, ts, h, j => by simp; omega
  | v :: vs, i, ts, h, j => by
    simp only [List.length_cons] at h
    rw [List.zipIdx_cons, List.foldl_cons, fold_set vs (i + 1) _ (by simp; omega)]
    by_cases h1 : i + 1 ≤ j ∧ j < i + 1 + vs.length
    · rw [if_pos h1, if_pos (by simp; omega)]
      have : j - i = (j - (i + 1)) + 1 := by omega
      rw [this, List.getElem?_cons_succ]
    · rw [if_neg h1]
      by_cases h2 : j = i
      · subst h2
        rw [if_pos ⟨Nat.le_refl _, by simp⟩, Array.getElem?_setIfInBounds_self_of_lt (by omega)]
        simp
      · rw [if_neg (by simp; omega), Array.getElem?_setIfInBounds_ne (Ne.symm h2)]
theorem start_ok {ρ : Env} {l : List AV} {vs : Array Value} {m : Nat} (h : VRL ρ l vs.toList) (hl : l.length ≤ m) : ActR ρ (initT l 0 ⟨m, .leaf, []⟩) { tmps := vs ++ Array.replicate (m - vs.size) undef, defers := [] } := by
  have h0 : ActR ρ ⟨m, .leaf, []⟩ { tmps := Array.replicate m undef, defers := [] } := by
    refine ⟨by simp, fun t => ?_, .nil⟩
    have : (Array.replicate m undef).getD t undef = undef := by
      simp [Array.getD_eq_getD_getElem?, Array.getElem?_replicate]
      split <;> rfl
    rw [this]
    exact undef_ok
  have h1 := initT_ok l vs.toList 0 _ _ h h0
  have hz : vs.size = l.length := h.size
  have e : (vs.toList.zipIdx 0).foldl (fun ts p => ts.setIfInBounds p.2 p.1) (Array.replicate m undef) = vs ++ Array.replicate (m - vs.size) undef := by
    apply Array.ext_getElem?
    intro j
    rw [fold_set _ _ _ (by simp; omega)]
    by_cases hj : j < vs.size
    · rw [if_pos (by simp; omega), Array.getElem?_append_left hj]
      simp
    · rw [if_neg (by simp; omega), Array.getElem?_append_right (by omega)]
      simp only [Array.getElem?_replicate]
      by_cases h3 : j < m
      · rw [if_pos h3, if_pos (by omega)]
      · rw [if_neg h3, if_neg (by omega)]
  rw [e] at h1
  exact h1
end
end Go.Proofs.YtnodnpehjbhphaaGreatDoor.Rk
