/- Part Rk4 of the proof: the statement that is proved stands in the text that ends with its name. No conditions beyond the card's. -/
import Derived.Test.YtmabpnmnppfgaaaGreatDoorRk3
import Derived.Lib.Bytealg
import Derived.Lib.Join
import Derived.Below
import Derived.RecoverIn
namespace Go.Proofs.YtmabpnmnppfgaaaGreatDoor.Rk
open Go
set_option linter.unusedVariables false
section
variable {P : Program} {ρ : Env} {T : Nat → Nat → Prop} {s s' : St} {w w' : World} {aa : AAct} {a : Act}
theorem loadRes_ok {t : TypeId} {x v : AV} {x' : Value} (h : opLoad P t x s = some (v, s')) (hp : Pre ρ T s s' w) (hx : VR ρ x x') : ∃ v', (asAddr x' >>= fun ad => loadVar t ad).run P w = .ok v' w ∧ Post ρ T s w ρ s' w ∧ VR ρ v v' := by
  unfold opLoad at h
  split at h
  · rename_i b off n ha hs
    split at h
    · rename_i cs s1 hr
      simp only [Option.some.injEq, Prod.mk.injEq] at h
      obtain ⟨rfl, rfl⟩ := h
      cases hx with
      | ptr b off r hb =>
        obtain ⟨vs, h1, h2, h3⟩ := rd_ok hr hp hb
        obtain ⟨e, _⟩ := rd_mono hr
        subst h1
        refine ⟨.agg vs.toArray, ?_, Post.same hp.good (by rw [e]; rfl) (by rw [e]; rfl) (Still.refl w), .agg _ _ (by simpa using h2)⟩
        simp [asAddr, loadVar, run_agg ha, run_szOf hs, run_cells h3]
    · cases h
  · rename_i b off ha
    split at h
    · rename_i v1 s1 hr
      simp only [Option.some.injEq, Prod.mk.injEq] at h
      obtain ⟨rfl, rfl⟩ := h
      cases hx with
      | ptr b off r hb =>
        obtain ⟨vs, h1, h2, h3⟩ := rd_ok hr hp hb
        obtain ⟨e, _⟩ := rd_mono hr
        match vs, h1 with
        | [u], _ =>
          cases h2 with
          | cons _ _ _ _ hv _ =>
            have hc := h3 0 u rfl
            rw [RB.at_add, Nat.add_zero] at hc
            refine ⟨u, ?_, Post.same hp.good (by rw [e]; rfl) (by rw [e]; rfl) (Still.refl w), hv⟩
            simp [asAddr, loadVar, run_agg ha, hc]
    · cases h
  · cases h
theorem resA_mono : ∀ {l : List ResultVar} {vs : List AV} {s s' : St}, resA P aa l s = some (vs, s') → Mono s s'
  | [], vs, s, s', h => by cases h; exact Mono.refl _
  | .tmp t :: l, vs, s, s', h => by
    unfold resA at h
    split at h
    · rename_i h1; cases h; exact resA_mono h1
    · cases h
  | .cell x t :: l, vs, s, s', h => by
    unfold resA at h
    split at h
    · rename_i h1
      split at h
      · rename_i h2; cases h; exact (opLoad_mono h1).trans (resA_mono h2)
      · cases h
    · cases h
def resVar (tmps : Array Value) : ResultVar → Sem Value
  | .tmp t => pure (tmps.getD t undef)
  | .cell a t => do loadVar t (← asAddr (tmps.getD a undef))
theorem resA_ok : ∀ {l : List ResultVar} {vs : List AV} {T : Nat → Nat → Prop} {s s' : St}, resA P aa l s = some (vs, s') → Pre ρ T s s' w → ActR ρ aa a → ∃ vs', (l.mapM (resVar a.tmps)).run P w = .ok vs' w ∧ VRL ρ vs vs' ∧ Post ρ T s w ρ s' w
  | [], vs, T, s, s', h, hp, ha => by cases h; exact ⟨[], rfl, .nil, Post.refl hp⟩
  | .tmp t :: l, vs, T, s, s', h, hp, ha => by
    unfold resA at h
    split at h
    · rename_i h1
      cases h
      obtain ⟨vs', g1, g2, g3⟩ := resA_ok h1 hp ha
      refine ⟨_ :: vs', ?_, .cons _ _ _ _ (ha.get t) g2, g3⟩
      simp only [List.mapM_cons, resVar, Sem.run_bind, Sem.run_pure, Result.andThen_ok, g1]
    · cases h
  | .cell x t :: l, vs, T, s, s', h, hp, ha => by
    unfold resA at h
    split at h
    · rename_i h1
      split at h
      · rename_i h2
        cases h
        have m1 := opLoad_mono h1
        have m2 := resA_mono h2
        obtain ⟨v', g1, g2, g3⟩ := loadRes_ok h1 (hp.first m2) (ha.get x)
        obtain ⟨vs', f1, f2, f3⟩ := resA_ok h2 (hp.next m1 m2 g2) ha
        refine ⟨v' :: vs', ?_, .cons _ _ _ _ g3 f2, Post.trans m1 m2 g2 f3⟩
        rw [List.mapM_cons, Sem.run_bind]
        show ((asAddr (a.tmps.getD x undef) >>= fun ad => loadVar t ad).run P w).andThen _ = _
        rw [g1]
        simp only [Sem.run_bind, Sem.run_pure, Result.andThen_ok, f1]
      · cases h
    · cases h
theorem results_ok {fn : Func} {vs : List AV} (h : resA P aa fn.results.toList s = some (vs, s')) (hp : Pre ρ T s s' w) (ha : ActR ρ aa a) : ∃ v, (results fn a.tmps).run P w = .ok v w ∧ VR ρ (tupA vs) v ∧ Post ρ T s w ρ s' w := by
  obtain ⟨vs', g1, g2, g3⟩ := resA_ok h hp ha
  have e : results fn a.tmps = (do let vs ← fn.results.mapM (resVar a.tmps); pure (if h : vs.size = 1 then vs[0] else .tuple vs)) := by
    unfold results
    congr 1
  refine ⟨if h : vs'.toArray.size = 1 then vs'.toArray[0] else .tuple vs'.toArray, ?_, ?_, g3⟩
  · rw [e, Array.mapM_eq_mapM_toList]
    simp only [Sem.run_bind, Sem.run_map, g1, Result.andThen_ok, Sem.run_pure]
  · cases g2 with
    | nil => exact .tuple _ _ .nil
    | cons x v l ls hx ht =>
      cases ht with
      | nil => exact hx
      | cons y u l2 ls2 hy ht2 =>
        have : ¬ ((v :: u :: ls2).toArray.size = 1) := by simp
        rw [dif_neg this]
        exact .tuple _ _ (by simpa using VRL.cons _ _ _ _ hx (.cons _ _ _ _ hy ht2))
theorem mem_keepL {n : Nat} {old l : List LE} {e : LE} : e ∈ keepL n old l ↔ e ∈ old ∨ e ∈ l ∧ e.blk < n := by
  induction l with
  | nil => simp [keepL]
  | cons x l ih =>
    unfold keepL
    split
    · rename_i hx
      rw [List.mem_cons, ih, List.mem_cons]
      constructor
      · rintro (rfl | h | h)
        · exact .inr ⟨.inl rfl, hx⟩
        · exact .inl h
        · exact .inr ⟨.inr h.1, h.2⟩
      · rintro (h | ⟨rfl | h, h2⟩)
        · exact .inr (.inl h)
        · exact .inl rfl
        · exact .inr (.inr ⟨h, h2⟩)
    · rename_i hx
      rw [ih, List.mem_cons]
      constructor
      · rintro (h | h)
        · exact .inl h
        · exact .inr ⟨.inr h.1, h.2⟩
      · rintro (h | ⟨rfl | h, h2⟩)
        · exact .inl h
        · exact absurd h2 hx
        · exact .inr ⟨h, h2⟩
def St.cut (s q : St) : St := { q with log := keepL s.n s.log q.log }
theorem Mono.cut {q : St} (m : Mono { s with log := [] } q) (hwf : WfS s) : Mono s (s.cut q) := by
  have hw0 : WfS { s with log := [] } := hwf
  have hlt : ∀ b x, s.heap.get b = some x → b < s.n := fun b x h => lt_n hwf h
  refine ⟨m.n, fun e he => mem_keepL.2 (.inl he), fun _ => m.wf hw0, fun _ b x hb hn => ?_, fun _ b x' hb h hl => m.lv hw0 b x' hb h hl, fun _ e he => ?_, fun _ hb e he => ?_⟩
  · have h1 := m.keep hw0 b x hb (fun hm => hn (mem_keepL.2 (.inr ⟨hm, hlt b x hb⟩)))
    cases x with
    | cells t cs =>
      obtain ⟨cs', g1, g2, g3⟩ := h1
      refine ⟨cs', g1, g2, fun i hi => g3 i (fun e he hw => ?_)⟩
      have hbb : e.blk = b := by cases e <;> first | exact hw.1 | exact hw.elim
      exact hi e (mem_keepL.2 (.inr ⟨he, by rw [hbb]; exact hlt b _ hb⟩)) hw
    | _ => exact h1
  · rcases mem_keepL.1 he with h1 | ⟨h1, h2⟩
    · exact .inl h1
    · rcases m.lw hw0 e h1 with h3 | h3 | h3
      · cases h3
      · exact .inr (.inl h3)
      · exact .inr (.inr h3)
  · rcases mem_keepL.1 he with h1 | ⟨h1, h2⟩
    · have := hb e h1
      have := m.n
      show e.blk < q.n
      have : s.n ≤ q.n := m.n
      omega
    · have : s.n ≤ q.n := m.n
      show e.blk < q.n
      omega
theorem Pre.cut {q : St} (m : Mono { s with log := [] } q) (hp : Pre ρ T s (s.cut q) w) : Pre ρ T { s with log := [] } q w :=
  ⟨hp.good, fun e he hb => hp.cov e (mem_keepL.2 (.inr ⟨he, hb⟩)) hb, hp.fresh, hp.wf, hp.tn⟩
theorem Post.cut {q : St} {ρ' : Env} (m : Mono { s with log := [] } q) (hp : Pre ρ T s (s.cut q) w) (h : Post ρ T { s with log := [] } w ρ' q w') : Post ρ T s w ρ' (s.cut q) w' := by
  have hw0 : WfS { s with log := [] } := hp.wf
  have key : ∀ e ∈ q.log, ∀ r, ρ e.blk = some r → e ∈ (s.cut q).log := by
    intro e he r hr
    refine mem_keepL.2 (.inr ⟨he, ?_⟩)
    have h1 : e.blk < q.n := m.lb hw0 (by simp) e he
    rcases Nat.lt_or_ge e.blk s.n with h2 | h2
    · exact h2
    · rw [hp.fresh e.blk h2 h1] at hr; cases hr
  have hall : ∀ B, All ρ q.log B → All ρ (s.cut q).log B := fun B ⟨b, r, h1, h2, h3⟩ => ⟨b, r, key _ h1 r h2, h2, h3⟩
  have hwrt : ∀ B o, Wrt ρ q.log B o → Wrt ρ (s.cut q).log B o := fun B o ⟨e, he, r, h1, h2, h3⟩ => ⟨e, key e he r h1, r, h1, h2, h3⟩
  exact ⟨h.ext, h.new, fun b r h1 h2 h3 => hall _ (h.fr b r h1 h2 h3), h.good, ⟨h.unch.os, h.unch.tape, h.unch.output, h.unch.size, fun B hB hn => h.unch.block B hB (fun o hw => hn o (hwrt B o hw)), fun B c t fr hc hna => by
    obtain ⟨c', g1, g2, g3⟩ := h.unch.cells B c t fr hc (fun ha => hna (hall B ha))
    exact ⟨c', g1, g2, fun o ho => g3 o (fun hw => ho (hwrt B o hw))⟩⟩⟩
end
end Go.Proofs.YtmabpnmnppfgaaaGreatDoor.Rk
namespace Go.Proofs.YtmabpnmnppfgaaaGreatDoor.Rk
open Go
set_option linter.unusedVariables false
def DM (ρ : Env) : Option AV → FrameMode → Prop
  | none, .returning => True
  | some v, .panicking ch => ∃ v', ch = [{ v := v', recovered := false }] ∧ VR ρ v v'
  | _, _ => False
theorem DM.mono {ρ ρ' : Env} {p : Option AV} {u : FrameMode} (h : DM ρ p u) (hr : ρ.le ρ') : DM ρ' p u := by
  cases p <;> cases u <;> try exact h
  obtain ⟨v', h1, h2⟩ := h
  exact ⟨v', h1, h2.mono hr⟩
theorem DM.run {ρ : Env} {p : Option AV} {u : FrameMode} (h : DM ρ p u) : u ≠ .run := by
  rintro rfl
  cases p <;> exact h
def DSound (P : Program) (D : DCallee) : Prop := ∀ f args p s p' s', D f args p s = some (p', s') → WfS s → Mono s s' ∧ ∀ (ρ : Env) (T : Nat → Nat → Prop) (w : World) (vs : Array Value) (u : FrameMode), Pre ρ T s s' w → VRL ρ args vs.toList → DM ρ p u →
  (∀ w1, (callFunc f vs).run P w1 = .ok (.enter f vs) w1) ∧ ∀ n, CallsDIn Fence.wide n P f vs u w (fun e u' w' => (∃ v, e = .returned v) ∧ ∃ ρ', Post ρ T s w ρ' s' w' ∧ DM ρ' p' (settle u'))
section
variable {P : Program} {D : DCallee} {C : Callee}
theorem runDefs_mono (hD : DSound P D) : ∀ {l : List DE} {p p' : Option AV} {s s' : St}, runDefs D l p s = some (p', s') → WfS s → Mono s s'
  | [], p, p', s, s', h, _ => by cases h; exact Mono.refl _
  | .mark b :: l, p, p', s, s', h, hwf => by
    unfold runDefs at h
    split at h
    · rename_i hb
      have m1 : Mono s ((s.put b .dead).note (.all b)) := Mono.put_note _ _ _ ⟨_, hb, trivial⟩
      exact m1.trans (runDefs_mono hD h (m1.wf hwf))
    · cases h
  | .fn f args :: l, p, p', s, s', h, hwf => by
    unfold runDefs at h
    split at h
    · rename_i h1
      have m1 := (hD _ _ _ _ _ _ h1 hwf).1
      exact m1.trans (runDefs_mono hD h (m1.wf hwf))
    · cases h
theorem runDefs_ok (hD : DSound P D) {n : Nat} {fn : Func} {tmps : Array Value} {R : Ending → World → Prop} : ∀ {l : List DE} {ds : List Deferred} {p p' : Option AV} {s s' : St} {ρ : Env} {T : Nat → Nat → Prop} {w : World} {u : FrameMode}, runDefs D l p s = some (p', s') → Pre ρ T s s' w → DefsR ρ l ds → DM ρ p u →
    (∀ ρ' w' u', Post ρ T s w ρ' s' w' → DM ρ' p' u' → LeavesIn Fence.wide n P fn tmps R [] u' w') → LeavesInM Fence.wide n P fn tmps R ds u w
  | [], ds, p, p', s, s', ρ, T, w, u, h, hp, hd, hu, hk => by
    cases h
    cases hd
    exact hk ρ w u (Post.refl hp) hu
  | .mark b :: l, ds, p, p', s, s', ρ, T, w, u, h, hp, hd, hu, hk => by
    unfold runDefs at h
    split at h
    · rename_i hb
      cases hd with
      | cons _ d _ ds hd1 hd2 =>
      cases hd1 with
      | mark _ r hr =>
      have m1 : Mono s ((s.put b .dead).note (.all b)) := Mono.put_note _ _ _ ⟨_, hb, trivial⟩
      have m2 := runDefs_mono hD h (m1.wf hp.wf)
      have hT : ∃ i, T b i := ⟨0, hp.cov (.all b) (m2.log _ (List.mem_cons_self ..)) (lt_n hp.wf hb) b 0 rfl⟩
      obtain ⟨r1, h1, h2⟩ := hp.good.sat b _ hb hT
      have : r1 = r := Option.some.inj (h1.symm.trans hr)
      subst this
      have post1 : Post ρ T s w ρ ((s.put b .dead).note (.all b)) (w.putObj r1.blk (.deferred none)) := Post.alt (x' := .dead) hp.good hb trivial hT hr (alt_put w _ h2) trivial
      refine ⟨hu.run, .inl ⟨r1.blk, _, rfl, run_takeDeferred h2, ?_⟩⟩
      exact runDefs_ok hD h (hp.next m1 m2 post1) hd2 hu (fun ρ' w' u' hpost hu' => hk ρ' w' u' (Post.trans m1 m2 post1 hpost) hu')
    · cases h
  | .fn f args :: l, ds, p, p', s, s', ρ, T, w, u, h, hp, hd, hu, hk => by
    unfold runDefs at h
    split at h
    · rename_i p1 s1 h1
      cases hd with
      | cons _ d _ ds hd1 hd2 =>
      cases hd1 with
      | fn _ _ cap as hargs =>
      obtain ⟨m1, k1⟩ := hD _ _ _ _ _ _ h1 hp.wf
      have m2 := runDefs_mono hD h (m1.wf hp.wf)
      obtain ⟨he, hc⟩ := k1 ρ T w (as ++ cap) u (hp.first m2) hargs hu
      refine ⟨hu.run, .inr ⟨fun hh => by simp [Fence.wide] at hh, .func f, cap, f, as ++ cap, rfl, he w, fun _ _ => trivial, trivial, fun c cs hcu hroom => ?_⟩⟩
      obtain ⟨_, hc'⟩ := hc (n - 1)
      obtain ⟨e, u', w', fr, ⟨⟨v, hv⟩, ρ', hpost, hu'⟩, hrest⟩ := hc' c cs hcu hroom
      subst hv
      exact ⟨.returned v, u', w', fr, runDefs_ok hD h (hp.next m1 m2 hpost) (hd2.mono hpost.ext) hu' (fun ρ2 w2 u2 hpost2 hu2 => hk ρ2 w2 u2 (Post.trans m1 m2 hpost hpost2) hu2), hrest⟩
    · cases h
theorem initT_ok {ρ : Env} : ∀ (l : List AV) (vs : List Value) (i : Nat) (aa : AAct) (ts : Array Value), VRL ρ l vs → ActR ρ aa { tmps := ts, defers := [] } → ActR ρ (initT l i aa) { tmps := (vs.zipIdx i).foldl (fun ts p => ts.setIfInBounds p.2 p.1) ts, defers := [] }
  | [], _, i, aa, ts, .nil, h => h
  | x :: l, _, i, aa, ts, .cons _ v _ vs hx ht, h => by
    exact initT_ok l vs (i + 1) (aa.putT i x) (ts.setIfInBounds i v) ht (h.putT i hx)
theorem fold_set : ∀ (vs : List Value) (i : Nat) (ts : Array Value), i + vs.length ≤ ts.size → (∀ j, ((vs.zipIdx i).foldl (fun ts p => ts.setIfInBounds p.2 p.1) ts)[j]? = if i ≤ j ∧ j < i + vs.length then vs[j - i]? else ts[j]?)
  | [], i, ts, h, j => by simp; omega
  | v :: vs, i, ts, h, j => by
    simp only [List.length_cons] at h
    rw [List.zipIdx_cons, List.foldl_cons, fold_set vs (i + 1) _ (by simp; omega)]
    by_cases h1 : i + 1 ≤ j ∧ j < i + 1 + vs.length
    · rw [if_pos h1, if_pos (by simp; omega)]
      have : j - i = (j - (i + 1)) + 1 := by omega
      rw [this, List.getElem?_cons_succ]
    · rw [if_neg h1]
      by_cases h2 : j = i
      · subst h2
        rw [if_pos ⟨Nat.le_refl _, by simp⟩, Array.getElem?_setIfInBounds_self_of_lt (by omega)]
        simp
      · rw [if_neg (by simp; omega), Array.getElem?_setIfInBounds_ne (Ne.symm h2)]
theorem start_ok {ρ : Env} {l : List AV} {vs : Array Value} {m : Nat} (h : VRL ρ l vs.toList) (hl : l.length ≤ m) : ActR ρ (initT l 0 ⟨m, .leaf, []⟩) { tmps := vs ++ Array.replicate (m - vs.size) undef, defers := [] } := by
  have h0 : ActR ρ ⟨m, .leaf, []⟩ { tmps := Array.replicate m undef, defers := [] } := by
    refine ⟨by simp, fun t => ?_, .nil⟩
    have : (Array.replicate m undef).getD t undef = undef := by
      simp [Array.getD_eq_getD_getElem?, Array.getElem?_replicate]
      split <;> rfl
    rw [this]
    exact undef_ok
  have h1 := initT_ok l vs.toList 0 _ _ h h0
  have hz : vs.size = l.length := h.size
  have e : (vs.toList.zipIdx 0).foldl (fun ts p => ts.setIfInBounds p.2 p.1) (Array.replicate m undef) = vs ++ Array.replicate (m - vs.size) undef := by
    apply Array.ext_getElem?
    intro j
    rw [fold_set _ _ _ (by simp; omega)]
    by_cases hj : j < vs.size
    · rw [if_pos (by simp; omega), Array.getElem?_append_left hj]
      simp
    · rw [if_neg (by simp; omega), Array.getElem?_append_right (by omega)]
      simp only [Array.getElem?_replicate]
      by_cases h3 : j < m
      · rw [if_pos h3, if_pos (by omega)]
      · rw [if_neg h3, if_neg (by omega)]
  rw [e] at h1
  exact h1
end
end Go.Proofs.YtmabpnmnppfgaaaGreatDoor.Rk
namespace Go.Proofs.YtmabpnmnppfgaaaGreatDoor.Rk
open Go
set_option linter.unusedVariables false
def plainFuncs (P : Program) : Bool := P.funcs.all fun fn => fn.body.isNone || fn.name != "runtime.NumGoroutine"
theorem enters {P : Program} (hP : plainFuncs P = true) {f : FuncId} {fn : Func} {c : Code} (hf : P.funcs[f]? = some fn) (hb : fn.body = some c) (vs : Array Value) (w : World) : (callFunc f vs).run P w = .ok (.enter f vs) w := by
  have h := Array.all_eq_true.1 hP f (Array.getElem?_eq_some_iff.1 hf).1
  have e : P.funcs[f]'(Array.getElem?_eq_some_iff.1 hf).1 = fn := (Array.getElem?_eq_some_iff.1 hf).2
  rw [e, hb] at h
  have h2 : (fn.name == "runtime.NumGoroutine") = false := by
    simp only [Option.isNone_some, Bool.false_or, bne_iff_ne, ne_eq] at h
    simpa using h
  unfold callFunc
  simp only [Sem.run_bind]
  have hprog : (program).run P w = .ok P w := rfl
  rw [hprog]
  simp only [Result.andThen_ok, hf, h2, hb, Option.isNone_some, Bool.false_eq_true, if_false, Sem.run_pure]
def TSound (P : Program) (O : Told) : Prop := ∀ f g, O f = some g → ∀ args s v s', g args s = some (v, s') → WfS s → Mono s s' ∧ ∀ (ρ : Env) (T : Nat → Nat → Prop) (w : World) (vs : Array Value), Pre ρ T s s' w → VRL ρ args vs.toList →
  (∀ w1, (callFunc f vs).run P w1 = .ok (.enter f vs) w1) ∧ ∀ n, CallsIn Fence.wide n P f vs w (fun e w' => ∃ ρ', Post ρ T s w ρ' s' w' ∧ ResR ρ' (.ret v) e)
section
variable {P : Program} {D : DCallee} {C : Callee}
theorem body_ok (hP : plainFuncs P = true) (hm : P.follows .mixedOrders = true) (hC : CSound P C) (hD : DSound P D) (fuel : Nat) : CSound P (body P C D fuel) := by
  intro f args s res s' h hwf
  unfold body at h
  split at h
  · rename_i fn hf
    split at h
    · rename_i c hb
      split at h
      · rename_i hlen
        split at h
        · rename_i e aa1 s1 hev
          split at h
          · rename_i p hend
            have hw0 : WfS { s with log := [] } := hwf
            obtain ⟨m1, k1⟩ := (ev_ok hm hC fuel).1 false _ _ _ _ _ _ hev hw0
            have main : ∀ (p' : Option AV) (s2 q : St), runDefs D aa1.defs p s1 = some (p', s2) → Mono s2 q → s' = s.cut q →
                (∀ (ρ : Env) (T : Nat → Nat → Prop) (w : World) (a : Act) (u : FrameMode) (n : Nat) (R : Ending → World → Prop), Pre ρ T s2 q w → ActR ρ aa1 a → DM ρ p' u → (∀ ρ' w' e, Post ρ T s2 w ρ' q w' → ResR ρ' res e → R e w') → LeavesIn Fence.wide n P fn a.tmps R [] u w) →
                Mono s s' ∧ ∀ (ρ : Env) (T : Nat → Nat → Prop) (w : World) (vs : Array Value), Pre ρ T s s' w → VRL ρ args vs.toList →
                  (∀ w1, (callFunc f vs).run P w1 = .ok (.enter f vs) w1) ∧ ∀ n, CallsIn Fence.wide n P f vs w (fun e w' => ∃ ρ', Post ρ T s w ρ' s' w' ∧ ResR ρ' res e) := by
              intro p' s2 q hrd m3 hs' hfin
              subst hs'
              have m2 := runDefs_mono hD hrd (m1.wf hw0)
              have mall := m1.trans (m2.trans m3)
              refine ⟨mall.cut hwf, fun ρ T w vs hp hargs => ⟨fun w1 => enters hP hf hb vs w1, fun n => ?_⟩⟩
              have hp0 := hp.cut mall
              refine callsIn_of_wp_marks hf hb trivial ?_
              refine wpIn_mono (k1 ρ T w _ none n (fun _ => rfl) (hp0.first (m2.trans m3)) (start_ok hargs hlen)) ?_
              rintro E a1 w1 ⟨ρ1, g1, g2, g3⟩
              have hp1 := hp0.next m1 (m2.trans m3) g1
              have fin : ∀ u, DM ρ1 p u → LeavesInM Fence.wide n P fn a1.tmps (fun e w' => ∃ ρ', Post ρ T s w ρ' (s.cut q) w' ∧ ResR ρ' res e) a1.defers u w1 := by
                intro u hu
                refine runDefs_ok hD hrd (hp1.first m3) g2.defs hu (fun ρ2 w2 u2 h2 hu2 => ?_)
                refine hfin ρ2 _ w2 a1 u2 n _ (hp1.next m2 m3 h2) (g2.mono h2.ext) hu2 (fun ρ3 w3 e3 h3 hr3 => ?_)
                exact ⟨ρ3, Post.cut mall hp (Post.trans m1 (m2.trans m3) g1 (Post.trans m2 m3 h2 h3)), hr3⟩
              cases e <;> cases E <;> simp only [ExR] at g3 <;> simp only [endOf, Option.some.injEq, reduceCtorEq] at hend
              · subst hend; exact fin .returning trivial
              · subst hend; exact fin .returning trivial
              · subst hend; exact fin _ g3
            split at h
            · rename_i s2 hrd
              split at h
              · rename_i vs s3 hres
                cases h
                refine main none s2 s3 hrd (resA_mono hres) rfl (fun ρ T w a u n R hp ha hu hk => ?_)
                cases u with
                | run => exact hu.elim
                | panicking ch => exact hu.elim
                | returning =>
                obtain ⟨v, g1, g2, g3⟩ := results_ok hres hp ha
                exact ⟨v, g1, hk ρ w _ g3 g2⟩
              · cases h
            · rename_i v s2 hrd
              cases h
              refine main (some v) s2 s2 hrd (Mono.refl _) rfl (fun ρ T w a u n R hp ha hu hk => ?_)
              cases u with
              | run => exact hu.elim
              | returning => exact hu.elim
              | panicking ch => exact hk ρ w _ (Post.refl hp) hu
            · cases h
          · cases h
        · cases h
      · cases h
    · cases h
  · cases h
theorem call_ok {O : Told} (hP : plainFuncs P = true) (hm : P.follows .mixedOrders = true) (hO : TSound P O) (hD : DSound P D) (fuel : Nat) : ∀ d, CSound P (call P O D fuel d)
  | 0 => fun f args s res s' h => by simp [call] at h
  | d + 1 => fun f args s res s' h hwf => by
    unfold call at h
    split at h
    · rename_i g hg
      split at h
      · rename_i v s1 h1
        cases h
        exact hO f g hg _ _ _ _ h1 hwf
      · exact body_ok hP hm (call_ok hP hm hO hD fuel d) hD fuel f args s res s' h hwf
    · exact body_ok hP hm (call_ok hP hm hO hD fuel d) hD fuel f args s res s' h hwf
end
end Go.Proofs.YtmabpnmnppfgaaaGreatDoor.Rk
namespace Go.Proofs.YtmabpnmnppfgaaaGreatDoor.Rk
open Go Go.RowKit
set_option linter.unusedVariables false
def oClone : List AV → St → Option (AV × St)
  | [.str x], s => if x.length < 1000000 then some (.str x, s) else none
  | _, _ => none
section
variable {P : Program} {ρ : Env} {T : Nat → Nat → Prop} {s s' : St} {w w' : World}
theorem Post.below (h : Good ρ T s.heap.get w) (hs : s'.heap = s.heap) (hn : s'.n = s.n) (hw : Below w.heap.size w w') : Post ρ T s w ρ s' w' := by
  have hk : ∀ b r, ρ b = some r → w'.heap[r.blk]? = w.heap[r.blk]? := fun b r hb => hw.block _ (h.old b r hb)
  refine ⟨Env.le_refl ρ, fun b r h => .inl h, fun b r h1 h2 _ => (nomatch (h1.symm.trans h2)), ?_, ⟨hw.os, hw.tape, hw.output, hw.size, fun B hB _ => hw.block B hB, fun B c t fr hc _ => ⟨c, (hw.block B (lt_of_some hc)).trans hc, rfl, fun _ _ => rfl⟩⟩⟩
  rw [hn, Tn_same]
  exact ⟨fun b x hb hT => by rw [hs] at hb; exact (h.sat b x hb hT).mono (Env.le_refl ρ) (fun _ h => h) (fun r hr => hk b r hr), fun b b' r r' x x' hx hx' hl hl' ht ht' hr hr' e => by rw [hs] at hx hx'; exact h.inj b b' r r' x x' hx hx' hl hl' ht ht' hr hr' e, fun b r hb => Nat.lt_of_lt_of_le (h.old b r hb) hw.size⟩
def Told1 (P : Program) (f : FuncId) (g : List AV → St → Option (AV × St)) : Prop := ∀ args s v s', g args s = some (v, s') → WfS s → Mono s s' ∧ ∀ (ρ : Env) (T : Nat → Nat → Prop) (w : World) (vs : Array Value), Pre ρ T s s' w → VRL ρ args vs.toList →
  Calls P f vs w (fun e w' => ∃ ρ', Post ρ T s w ρ' s' w' ∧ ResR ρ' (.ret v) e)
theorem vrl1 {x : AV} {vs : Array Value} (h : VRL ρ [x] vs.toList) : ∃ x', vs = #[x'] ∧ VR ρ x x' := by
  rcases vs with ⟨l⟩
  cases h with
  | cons _ x' _ _ hx ht => cases ht; exact ⟨x', rfl, hx⟩
theorem told_clone {f : FuncId} (K : ∀ (s : ByteArray) (w : World), s.size ≤ 281474976710656 → Calls P f #[.string s] w fun e w' => e = .returned (.string s) ∧ Below w.heap.size w w') : Told1 P f oClone := by
  intro args s v s' h hwf
  unfold oClone at h
  split at h
  · rename_i s0 x
    split at h
    · rename_i hl
      cases h
      refine ⟨Mono.refl _, fun ρ T w vs hp hargs => ?_⟩
      obtain ⟨x', rfl, hx⟩ := vrl1 hargs
      cases hx with
      | str _ hxl =>
      refine (K ⟨(x.map UInt8.ofNat).toArray⟩ w (by simp [ByteArray.size]; omega)).mono ?_
      rintro e w' ⟨rfl, hb⟩
      exact ⟨ρ, Post.below hp.good rfl rfl hb, .str x hxl⟩
    · cases h
  · cases h
end
end Go.Proofs.YtmabpnmnppfgaaaGreatDoor.Rk
namespace Go.Proofs.YtmabpnmnppfgaaaGreatDoor.Rk
open Go
set_option linter.unusedVariables false
def recHead (o0 o1 : Oper) : Option (Tmp × Tmp) :=
  match o0.op, o0.dst, o0.guard, o1.op, o1.dst, o1.guard with
  | .call { callee := .builtin .recover, args := ⟨[]⟩, .. }, some d0, none, .assign (.tmp t), some d1, none => if t = d0 then some (d0, d1) else none
  | _, _, _, _, _, _ => none
def dcall (P : Program) (fuel : Nat) : DCallee := fun f args p s =>
  match P.funcs[f]? with
  | some fn => match fn.body with
    | some (.seq (.region _ ⟨[o0, o1]⟩ false) rest) => match recHead o0 o1 with
      | some (d0, d1) => if args.length ≤ fn.ntmps ∧ fn.results.toList.isEmpty then
          match ev P (fun _ _ _ => none) fuel false rest (((initT args 0 ⟨fn.ntmps, .leaf, []⟩).putT d0 (p.getD .nili)).putT d1 (((initT args 0 ⟨fn.ntmps, .leaf, []⟩).putT d0 (p.getD .nili)).get d0)) { s with log := [] } with
          | some (e, a, s1) => match e, a.defs with
            | .normal, [] => some (none, s.cut s1)
            | .ret, [] => some (none, s.cut s1)
            | _, _ => none
          | none => none
        else none
      | none => none
    | _ => none
  | none => none
section
variable {P : Program}
theorem csound_none : CSound P (fun _ _ _ => none) := fun f args s res s' h => by cases h
theorem dsound (hP : plainFuncs P = true) (hm : P.follows .mixedOrders = true) (fuel : Nat) : DSound P (dcall P fuel) := by
  intro f args p s p' s' h hwf
  unfold dcall at h
  split at h
  · rename_i fn hf
    split at h
    · rename_i id o0 o1 rest hb
      split at h
      · rename_i d0 d1 hh
        split at h
        · rename_i hlen
          obtain ⟨hlen, hres⟩ := hlen
          split at h
          · rename_i e aa1 s1 hev
            obtain ⟨m1, k1⟩ := (ev_ok hm csound_none fuel).1 false _ _ _ _ _ _ hev hwf
            have main : (e = .normal ∨ e = .ret) → aa1.defs = [] → p' = none → s' = s.cut s1 → Mono s s' ∧ ∀ (ρ : Env) (T : Nat → Nat → Prop) (w : World) (vs : Array Value) (u : FrameMode), Pre ρ T s s' w → VRL ρ args vs.toList → DM ρ p u →
                (∀ w1, (callFunc f vs).run P w1 = .ok (.enter f vs) w1) ∧ ∀ n, CallsDIn Fence.wide n P f vs u w (fun e u' w' => (∃ v, e = .returned v) ∧ ∃ ρ', Post ρ T s w ρ' s' w' ∧ DM ρ' p' (settle u')) := by
              intro he hdef hp' hs'
              subst hp' hs'
              refine ⟨m1.cut hwf, fun ρ T w vs u hp hargs hu => ⟨fun w1 => enters hP hf hb vs w1, fun n => ?_⟩⟩
              have hp0 := hp.cut m1
              refine callsDIn_of_wpSIn hf hb trivial (fun c₀ cs hc0 => ?_)
              obtain ⟨rv, cs1, u1, hrv, hcs1, hu1, hrec⟩ : ∃ rv cs1 u1, VR ρ (p.getD .nili) rv ∧ cs1 = { c₀ with mode := u1 } :: cs ∧ DM ρ none (settle u1) ∧ (recoverD (c₀ :: cs) = some (rv, cs1) ∨ recoverD (c₀ :: cs) = none ∧ rv = .nilIface ∧ cs1 = c₀ :: cs) := by
                cases p with
                | none =>
                  cases u with
                  | run => exact hu.elim
                  | panicking ch => exact hu.elim
                  | returning =>
                    refine ⟨.nilIface, c₀ :: cs, .returning, .nili, by rw [← hc0], trivial, .inr ⟨?_, rfl, rfl⟩⟩
                    simp [recoverD, hc0]
                | some v =>
                  cases u with
                  | run => exact hu.elim
                  | returning => exact hu.elim
                  | panicking ch =>
                    obtain ⟨v', rfl, hv⟩ := hu
                    refine ⟨v', _, .panicking [{ v := v', recovered := true }], hv, rfl, trivial, .inl ?_⟩
                    simp [recoverD, hc0]
              unfold recHead at hh
              split at hh
              · rename_i at0 d0' t d1' ho0 hd0 hg0 ho1 hd1 hg1
                split at hh
                · rename_i htd
                  subst htd
                  cases hh
                  refine wpSIn_seq (wpSIn_region ?_)
                  have hst := start_ok (m := fn.ntmps) hargs hlen
                  have hput : ∀ (a : Act) (aa : AAct) (d : Tmp) (v : AV) (v' : Value), ActR ρ aa a → VR ρ v v' → ActR ρ (aa.putT d v) (a.put (some d) v') := fun a aa d v v' ha hv => by
                    have := ha.put (some d) hv
                    exact this
                  have h1 := hput _ _ d0 (p.getD .nili) rv hst hrv
                  have h2 := hput _ _ d1 _ _ h1 (h1.get d0)
                  have hev0 : ∀ a : Act, (execOp a.eval o0).run P w = .ok .recover w := fun a => by
                    unfold execOp
                    rw [ho0]
                    simp [resolve, invoke, builtin]
                    try rfl
                  have hw0 : ∀ ts, Region.wanted o0 (yielded #[o0, o1] ts) = true := fun ts => by unfold Region.wanted; rw [hg0]
                  have hw1 : ∀ ts, Region.wanted o1 (yielded #[o0, o1] ts) = true := fun ts => by unfold Region.wanted; rw [hg1]
                  have hev1 : ∀ a : Act, (execOp a.eval o1).run P w = .ok (.value (a.eval (.tmp d0))) w := fun a => by
                    unfold execOp
                    rw [ho1]
                    rfl
                  have e0 : (#[o0, o1] : Array Oper)[0]? = some o0 := rfl
                  have e1 : (#[o0, o1] : Array Oper)[1]? = some o1 := rfl
                  have second : wpOpsSIn Fence.wide n P #[o0, o1] (Exit.thenS (rest.wpSIn Fence.wide n P (bodyPostS P fn c₀ cs fun e u' w' => (∃ v, e = Ending.returned v) ∧ ∃ ρ', Post ρ T s w ρ' (s.cut s1) w' ∧ DM ρ' none (settle u'))) (bodyPostS P fn c₀ cs fun e u' w' => (∃ v, e = Ending.returned v) ∧ ∃ ρ', Post ρ T s w ρ' (s.cut s1) w' ∧ DM ρ' none (settle u'))) [1]
                      (({ tmps := vs ++ Array.replicate (fn.ntmps - vs.size) undef, defers := [] } : Act).put (some d0) rv) cs1 w := by
                    simp only [wpOpsSIn, e1, hw1, if_true, hev1, hd1]
                    refine ⟨fun _ _ => trivial, ?_⟩
                    refine wpSIn_of_wpIn rfl (wpIn_mono (k1 ρ T w _ none n (fun _ => rfl) hp0 h2) ?_)
                    rintro E a2 w2 ⟨ρ2, g1, g2, g3⟩
                    have hpost := Post.cut m1 hp g1
                    have hds : a2.defers = [] := by
                      have := g2.defs
                      rw [hdef] at this
                      generalize a2.defers = dd at this
                      cases this
                      rfl
                    have hfr : fn.results = #[] := by
                      have : fn.results.toList = [] := by simpa using hres
                      rw [← Array.toList_inj]; exact this
                    have r1 := results_none hfr a2.tmps P w2
                    have fin : a2.defers = [] ∧ ∃ u', cs1 = { c₀ with mode := u' } :: cs ∧ ∃ v, (results fn a2.tmps).run P w2 = .ok v w2 ∧ ((∃ v', Ending.returned v = .returned v') ∧ ∃ ρ', Post ρ T s w ρ' (s.cut s1) w2 ∧ DM ρ' none (settle u')) :=
                      ⟨hds, u1, hcs1, _, r1, ⟨_, rfl⟩, ρ2, hpost, hu1.mono g1.ext⟩
                    rcases he with rfl | rfl
                    · cases E <;> first | exact g3.elim | exact fin
                    · cases E <;> first | exact g3.elim | exact fin
                  show wpOpsSIn Fence.wide n P #[o0, o1] _ [0, 1] _ _ _
                  rw [wpOpsSIn]
                  simp only [e0, hw0, if_true, hev0, hd0]
                  refine ⟨fun _ _ => trivial, ?_⟩
                  rcases hrec with hrec | ⟨hrec, hrv0, hcs0⟩
                  · simp only [hrec]
                    exact second
                  · simp only [hrec]
                    rw [← hrv0, ← hcs0]
                    exact second
                · cases hh
              · cases hh
            split at h
            · rename_i hd
              cases h
              exact main (.inl rfl) hd rfl rfl
            · rename_i hd
              cases h
              exact main (.inr rfl) hd rfl rfl
            · cases h
          · cases h
        · cases h
      · cases h
    · cases h
  · cases h
end
end Go.Proofs.YtmabpnmnppfgaaaGreatDoor.Rk
namespace Go.Proofs.YtmabpnmnppfgaaaGreatDoor.Rk
open Go Go.RowKit
set_option linter.unusedVariables false
section
variable {P : Program} {ρ : Env} {T : Nat → Nat → Prop} {s s' : St} {w w' : World}
def ansTrue : Option (Res × St) → Bool
  | some (.ret (.bool true), _) => true
  | _ => false
theorem closed_args {O : Told} {f : FuncId} {args : List AV} (hP : plainFuncs P = true) (hm : P.follows .mixedOrders = true) (hO : TSound P O) (fuel d : Nat)
    (h : ansTrue (call P O (dcall P fuel) fuel d f args ⟨.leaf, 0, []⟩) = true) (vs : Array Value) (hv : VRL (fun _ => none) args vs.toList) (w : World) : Calls P f vs w (fun e w' => e = .returned (.bool true) ∧ Below w.heap.size w w') := by
  unfold ansTrue at h
  split at h
  · rename_i q hq
    have hwf : WfS ⟨.leaf, 0, []⟩ := fun b _ => rfl
    obtain ⟨_, k⟩ := call_ok hP hm hO (dsound hP hm fuel) fuel d f args _ _ _ hq hwf
    have hp : Pre (fun _ => none) (fun _ _ => False) ⟨.leaf, 0, []⟩ q w := by
      refine ⟨⟨fun b x hb => ?_, fun b b' r r' x x' hb => ?_, fun b r hb => ?_⟩, fun e he hb => ?_, fun b _ _ => rfl, hwf, fun b i hb => hb.elim⟩
      · cases hb
      · cases hb
      · cases hb
      · exact absurd hb (Nat.not_lt_zero _)
    obtain ⟨_, hc⟩ := k _ _ w vs hp hv
    refine (callsIn_wide.1 (hc 0)).mono ?_
    rintro e w' ⟨ρ', hpost, hres⟩
    cases e with
    | panicked ch => exact hres.elim
    | outgrown => exact hres.elim
    | returned v' =>
      have hu := hpost.unch
      replace hres : VR ρ' (.bool true) v' := hres
      cases hres
      exact ⟨rfl, ⟨hu.os, hu.tape, hu.output, hu.size, fun B hB => hu.block B hB (fun o ⟨e, he, r, h1, _⟩ => by cases h1)⟩⟩
  · cases h
end
end Go.Proofs.YtmabpnmnppfgaaaGreatDoor.Rk
