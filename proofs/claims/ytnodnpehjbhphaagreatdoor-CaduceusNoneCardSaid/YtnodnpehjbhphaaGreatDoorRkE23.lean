/- A function's end: its results; its deferred calls; what is forgotten of its own blocks. Plain lemmas. -/
import Derived.Test.YtnodnpehjbhphaaGreatDoorRkE22
namespace Go.Proofs.YtnodnpehjbhphaaGreatDoor.Rk
open Go
set_option linter.unusedVariables false
section
variable {P : Program} {ρ : Env} {T : Nat → Nat → Prop} {s s' : St} {w w' : World} {aa : AAct} {a : Act}
theorem loadRes_ok {t : TypeId} {x v : AV} {x' : Value} (h : opLoad P t x s = some (v, s')) (hp : Pre ρ T s s' w) (hx : VR ρ x x') : ∃ v', (asAddr x' >>= fun ad => loadVar t ad).run P w = .ok v' w ∧ Post ρ T s w ρ s' w ∧ VR ρ v v' := by
  unfold opLoad at h
  split at h
  · rename_i b off n ha hs
    split at h
    · rename_i cs s1 hr
      simp only [Option.some.injEq, Prod.mk.injEq] at h
      obtain ⟨rfl, rfl⟩ := h
      cases hx with
      | ptr b off r hb =>
        obtain ⟨vs, h1, h2, h3⟩ := rd_ok hr hp hb
        obtain ⟨e, _⟩ := rd_mono hr
        subst h1
        refine ⟨.agg vs.toArray, ?_, Post.same hp.good (by rw [e]; rfl) (by rw [e]; rfl) (Still.refl w), .agg _ _ (by simpa using h2)⟩
        simp [asAddr, loadVar, run_agg ha, run_szOf hs, run_cells h3]
    · cases h
  · rename_i b off ha
    split at h
    · rename_i v1 s1 hr
      simp only [Option.some.injEq, Prod.mk.injEq] at h
      obtain ⟨rfl, rfl⟩ := h
      cases hx with
      | ptr b off r hb =>
        obtain ⟨vs, h1, h2, h3⟩ := rd_ok hr hp hb
        obtain ⟨e, _⟩ := rd_mono hr
        match vs, h1 with
        | [u], _ =>
          cases h2 with
          | cons _ _ _ _ hv _ =>
            have hc := h3 0 u rfl
            rw [RB.at_add, Nat.add_zero] at hc
            refine ⟨u, ?_, Post.same hp.good (by rw [e]; rfl) (by rw [e]; rfl) (Still.refl w), hv⟩
            simp [asAddr, loadVar, run_agg ha, hc]
    · cases h
  · cases h
theorem resA_mono : ∀ {l : List ResultVar} {vs : List AV} {s s' : St}, resA P aa l s = some (vs, s') → Mono s s'
  | [], vs, s, s', h => by cases h; exact Mono.refl _
  | .tmp t :: l, vs, s, s', h => by
    unfold resA at h
    split at h
    · rename_i h1; cases h; exact resA_mono h1
    · cases h
  | .cell x t :: l, vs, s, s', h => by
    unfold resA at h
    split at h
    · rename_i h1
      split at h
      · rename_i h2; cases h; exact (opLoad_mono h1).trans (resA_mono h2)
      · cases h
    · cases h
def resVar (tmps : Array Value) : ResultVar → Sem Value
  | .tmp t => pure (tmps.getD t undef)
  | .cell a t => do loadVar t (← asAddr (tmps.getD a undef))
theorem resA_ok : ∀ {l : List ResultVar} {vs : List AV} {T : Nat → Nat → Prop} {s s' : St}, resA P aa l s = some (vs, s') → Pre ρ T s s' w → ActR ρ aa a → ∃ vs', (l.mapM (resVar a.tmps)).run P w = .ok vs' w ∧ VRL ρ vs vs' ∧ Post ρ T s w ρ s' w
  | [], vs, T, s, s', h, hp, ha => by cases h; exact ⟨[], rfl, .nil, Post.refl hp⟩
  | .tmp t :: l, vs, T, s, s', h, hp, ha => by
    unfold resA at h
    split at h
    · rename_i h1
      cases h
      obtain ⟨vs', g1, g2, g3⟩ := resA_ok h1 hp ha
      refine ⟨_ :: vs', ?_, .cons _ _ _ _ (ha.get t) g2, g3⟩
      simp only [List.mapM_cons, resVar, Sem.run_bind, Sem.run_pure, Result.andThen_ok, g1]
    · cases h
  | .cell x t :: l, vs, T, s, s', h, hp, ha => by
    unfold resA at h
    split at h
    · rename_i h1
      split at h
      · rename_i h2
        cases h
        have m1 := opLoad_mono h1
        have m2 := resA_mono h2
        obtain ⟨v', g1, g2, g3⟩ := loadRes_ok h1 (hp.first m2) (ha.get x)
        obtain ⟨vs', f1, f2, f3⟩ := resA_ok h2 (hp.next m1 m2 g2) ha
        refine ⟨v' :: vs', ?_, .cons _ _ _ _ g3 f2, Post.trans m1 m2 g2 f3⟩
        rw [List.mapM_cons, Sem.run_bind]
        show ((asAddr (a.tmps.getD x undef) >>= fun ad => loadVar t ad).run P w).andThen _ = _
        rw [g1]
        simp only [Sem.run_bind, Sem.run_pure, Result.andThen_ok, f1]
      · cases h
    · cases h
theorem results_ok {fn : Func} {vs : List AV} (h : resA P aa fn.results.toList s = some (vs, s')) (hp : Pre ρ T s s' w) (ha : ActR ρ aa a) : ∃ v, (results fn a.tmps).run P w = .ok v w ∧ VR ρ (tupA vs) v ∧ Post ρ T s w ρ s' w := by
  obtain ⟨vs', g1, g2, g3⟩ := resA_ok h hp ha
  have e : results fn a.tmps = (do let vs ← fn.results.mapM (resVar a.tmps); pure (if h : vs.size = 1 then vs[0] else .tuple vs)) := by
    unfold results
    congr 1
  refine ⟨if h : vs'.toArray.size = 1 then vs'.toArray[0] else .tuple vs'.toArray, ?_, ?_, g3⟩
  · rw [e, Array.mapM_eq_mapM_toList]
    simp only [Sem.run_bind, Sem.run_map, g1, Result.andThen_ok, Sem.run_pure]
  · cases g2 with
    | nil => exact .tuple _ _ .nil
    | cons x v l ls hx ht =>
      cases ht with
      | nil => exact hx
      | cons y u l2 ls2 hy ht2 =>
        have : ¬ ((v :: u :: ls2).toArray.size = 1) := by simp
        rw [dif_neg this]
        exact .tuple _ _ (by simpa using VRL.cons _ _ _ _ hx (.cons _ _ _ _ hy ht2))
-- ## what is forgotten
theorem mem_keepL {n : Nat} {old l : List LE} {e : LE} : e ∈ keepL n old l ↔ e ∈ old ∨ e ∈ l ∧ e.blk < n := by
  induction l with
  | nil => simp [keepL]
  | cons x l ih =>
    unfold keepL
    split
    · rename_i hx
      rw [List.mem_cons, ih, List.mem_cons]
      constructor
      · rintro (rfl | h | h)
        · exact .inr ⟨.inl rfl, hx⟩
        · exact .inl h
        · exact .inr ⟨.inr h.1, h.2⟩
      · rintro (h | ⟨rfl | h, h2⟩)
        · exact .inr (.inl h)
        · exact .inl rfl
        · exact .inr (.inr ⟨h, h2⟩)
    · rename_i hx
      rw [ih, List.mem_cons]
      constructor
      · rintro (h | h)
        · exact .inl h
        · exact .inr ⟨.inr h.1, h.2⟩
      · rintro (h | ⟨rfl | h, h2⟩)
        · exact .inl h
        · exact absurd h2 hx
        · exact .inr ⟨h, h2⟩
def St.cut (s q : St) : St := { q with log := keepL s.n s.log q.log }
theorem Mono.cut {q : St} (m : Mono { s with log := [] } q) (hwf : WfS s) : Mono s (s.cut q) := by
  have hw0 : WfS { s with log := [] } := hwf
  have hlt : ∀ b x, s.heap.get b = some x → b < s.n := fun b x h => lt_n hwf h
  refine ⟨m.n, fun e he => mem_keepL.2 (.inl he), fun _ => m.wf hw0, fun _ b x hb hn => ?_, fun _ b x' hb h hl => m.lv hw0 b x' hb h hl, fun _ e he => ?_, fun _ hb e he => ?_⟩
  · have h1 := m.keep hw0 b x hb (fun hm => hn (mem_keepL.2 (.inr ⟨hm, hlt b x hb⟩)))
    cases x with
    | cells t cs =>
      obtain ⟨cs', g1, g2, g3⟩ := h1
      refine ⟨cs', g1, g2, fun i hi => g3 i (fun e he hw => ?_)⟩
      have hbb : e.blk = b := by cases e <;> first | exact hw.1 | exact hw.elim
      exact hi e (mem_keepL.2 (.inr ⟨he, by rw [hbb]; exact hlt b _ hb⟩)) hw
    | _ => exact h1
  · rcases mem_keepL.1 he with h1 | ⟨h1, h2⟩
    · exact .inl h1
    · rcases m.lw hw0 e h1 with h3 | h3 | h3
      · cases h3
      · exact .inr (.inl h3)
      · exact .inr (.inr h3)
  · rcases mem_keepL.1 he with h1 | ⟨h1, h2⟩
    · have := hb e h1
      have := m.n
      show e.blk < q.n
      have : s.n ≤ q.n := m.n
      omega
    · have : s.n ≤ q.n := m.n
      show e.blk < q.n
      omega
theorem Pre.cut {q : St} (m : Mono { s with log := [] } q) (hp : Pre ρ T s (s.cut q) w) : Pre ρ T { s with log := [] } q w :=
  ⟨hp.good, fun e he hb => hp.cov e (mem_keepL.2 (.inr ⟨he, hb⟩)) hb, hp.fresh, hp.wf, hp.tn⟩
theorem Post.cut {q : St} {ρ' : Env} (m : Mono { s with log := [] } q) (hp : Pre ρ T s (s.cut q) w) (h : Post ρ T { s with log := [] } w ρ' q w') : Post ρ T s w ρ' (s.cut q) w' := by
  have hw0 : WfS { s with log := [] } := hp.wf
  have key : ∀ e ∈ q.log, ∀ r, ρ e.blk = some r → e ∈ (s.cut q).log := by
    intro e he r hr
    refine mem_keepL.2 (.inr ⟨he, ?_⟩)
    have h1 : e.blk < q.n := m.lb hw0 (by simp) e he
    rcases Nat.lt_or_ge e.blk s.n with h2 | h2
    · exact h2
    · rw [hp.fresh e.blk h2 h1] at hr; cases hr
  have hall : ∀ B, All ρ q.log B → All ρ (s.cut q).log B := fun B ⟨b, r, h1, h2, h3⟩ => ⟨b, r, key _ h1 r h2, h2, h3⟩
  have hwrt : ∀ B o, Wrt ρ q.log B o → Wrt ρ (s.cut q).log B o := fun B o ⟨e, he, r, h1, h2, h3⟩ => ⟨e, key e he r h1, r, h1, h2, h3⟩
  exact ⟨h.ext, h.new, fun b r h1 h2 h3 => hall _ (h.fr b r h1 h2 h3), h.good, ⟨h.unch.os, h.unch.tape, h.unch.output, h.unch.size, fun B hB hn => h.unch.block B hB (fun o hw => hn o (hwrt B o hw)), fun B c t fr hc hna => by
    obtain ⟨c', g1, g2, g3⟩ := h.unch.cells B c t fr hc (fun ha => hna (hall B ha))
    exact ⟨c', g1, g2, fun o ho => g3 o (fun hw => ho (hwrt B o hw))⟩⟩⟩
end
end Go.Proofs.YtnodnpehjbhphaaGreatDoor.Rk
