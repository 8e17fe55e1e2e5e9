/- Deferred calls that recover. Plain lemmas. -/
import Derived.Test.YtnodnpehjbhphaaGreatDoorRkE26
import Derived.RecoverIn
namespace Go.Proofs.YtnodnpehjbhphaaGreatDoor.Rk
open Go
set_option linter.unusedVariables false
/-- The beginning of a deferred function: 'x := recover()'. -/
def recHead (o0 o1 : Oper) : Option (Tmp × Tmp) :=
  match o0.op, o0.dst, o0.guard, o1.op, o1.dst, o1.guard with
  | .call { callee := .builtin .recover, args := ⟨[]⟩, .. }, some d0, none, .assign (.tmp t), some d1, none => if t = d0 then some (d0, d1) else none
  | _, _, _, _, _, _ => none
def dcall (P : Program) (fuel : Nat) : DCallee := fun f args p s =>
  match P.funcs[f]? with
  | some fn => match fn.body with
    | some (.seq (.region _ ⟨[o0, o1]⟩ false) rest) => match recHead o0 o1 with
      | some (d0, d1) => if args.length ≤ fn.ntmps ∧ fn.results.toList.isEmpty then
          match ev P (fun _ _ _ => none) fuel false rest (((initT args 0 ⟨fn.ntmps, .leaf, []⟩).putT d0 (p.getD .nili)).putT d1 (((initT args 0 ⟨fn.ntmps, .leaf, []⟩).putT d0 (p.getD .nili)).get d0)) { s with log := [] } with
          | some (e, a, s1) => match e, a.defs with
            | .normal, [] => some (none, s.cut s1)
            | .ret, [] => some (none, s.cut s1)
            | _, _ => none
          | none => none
        else none
      | none => none
    | _ => none
  | none => none
section
variable {P : Program}
theorem csound_none : CSound P (fun _ _ _ => none) := fun f args s res s' h => by cases h
theorem get_put_self {ρ : Env} {aa : AAct} {a : Act} {x : AV} {v : Value} {d : Tmp} (ha : ActR ρ aa a) (hx : VR ρ x v) (hd : d < aa.sz) : (a.put (some d) v).tmps.getD d undef = v := by
  have : d < a.tmps.size := by rw [ha.size]; exact hd
  simp [Act.put, Array.getD_eq_getD_getElem?, this]
theorem dsound (hP : plainFuncs P = true) (hm : P.follows .mixedOrders = true) (fuel : Nat) : DSound P (dcall P fuel) := by
  intro f args p s p' s' h hwf
  unfold dcall at h
  split at h
  · rename_i fn hf
    split at h
    · rename_i id o0 o1 rest hb
      split at h
      · rename_i d0 d1 hh
        split at h
        · rename_i hlen
          obtain ⟨hlen, hres⟩ := hlen
          split at h
          · rename_i e aa1 s1 hev
            obtain ⟨m1, k1⟩ := (ev_ok hm csound_none fuel).1 false _ _ _ _ _ _ hev hwf
            have main : (e = .normal ∨ e = .ret) → aa1.defs = [] → p' = none → s' = s.cut s1 → Mono s s' ∧ ∀ (ρ : Env) (T : Nat → Nat → Prop) (w : World) (vs : Array Value) (u : FrameMode), Pre ρ T s s' w → VRL ρ args vs.toList → DM ρ p u →
                (∀ w1, (callFunc f vs).run P w1 = .ok (.enter f vs) w1) ∧ ∀ n, CallsDIn Fence.wide n P f vs u w (fun e u' w' => (∃ v, e = .returned v) ∧ ∃ ρ', Post ρ T s w ρ' s' w' ∧ DM ρ' p' (settle u')) := by
              intro he hdef hp' hs'
              subst hp' hs'
              refine ⟨m1.cut hwf, fun ρ T w vs u hp hargs hu => ⟨fun w1 => enters hP hf hb vs w1, fun n => ?_⟩⟩
              have hp0 := hp.cut m1
              refine callsDIn_of_wpSIn hf hb trivial (fun c₀ cs hc0 => ?_)
              -- what recover answers
              obtain ⟨rv, cs1, u1, hrv, hcs1, hu1, hrec⟩ : ∃ rv cs1 u1, VR ρ (p.getD .nili) rv ∧ cs1 = { c₀ with mode := u1 } :: cs ∧ DM ρ none (settle u1) ∧ (recoverD (c₀ :: cs) = some (rv, cs1) ∨ recoverD (c₀ :: cs) = none ∧ rv = .nilIface ∧ cs1 = c₀ :: cs) := by
                cases p with
                | none =>
                  cases u with
                  | run => exact hu.elim
                  | panicking ch => exact hu.elim
                  | returning =>
                    refine ⟨.nilIface, c₀ :: cs, .returning, .nili, by rw [← hc0], trivial, .inr ⟨?_, rfl, rfl⟩⟩
                    simp [recoverD, hc0]
                | some v =>
                  cases u with
                  | run => exact hu.elim
                  | returning => exact hu.elim
                  | panicking ch =>
                    obtain ⟨v', rfl, hv⟩ := hu
                    refine ⟨v', _, .panicking [{ v := v', recovered := true }], hv, rfl, trivial, .inl ?_⟩
                    simp [recoverD, hc0]
              unfold recHead at hh
              split at hh
              · rename_i at0 d0' t d1' ho0 hd0 hg0 ho1 hd1 hg1
                split at hh
                · rename_i htd
                  subst htd
                  cases hh
                  refine wpSIn_seq (wpSIn_region ?_)
                  have hst := start_ok (m := fn.ntmps) hargs hlen
                  have hput : ∀ (a : Act) (aa : AAct) (d : Tmp) (v : AV) (v' : Value), ActR ρ aa a → VR ρ v v' → ActR ρ (aa.putT d v) (a.put (some d) v') := fun a aa d v v' ha hv => by
                    have := ha.put (some d) hv
                    exact this
                  have h1 := hput _ _ d0 (p.getD .nili) rv hst hrv
                  have h2 := hput _ _ d1 _ _ h1 (h1.get d0)
                  have hev0 : ∀ a : Act, (execOp a.eval o0).run P w = .ok .recover w := fun a => by
                    unfold execOp
                    rw [ho0]
                    simp [resolve, invoke, builtin]
                    try rfl
                  have hw0 : ∀ ts, Region.wanted o0 (yielded #[o0, o1] ts) = true := fun ts => by unfold Region.wanted; rw [hg0]
                  have hw1 : ∀ ts, Region.wanted o1 (yielded #[o0, o1] ts) = true := fun ts => by unfold Region.wanted; rw [hg1]
                  have hev1 : ∀ a : Act, (execOp a.eval o1).run P w = .ok (.value (a.eval (.tmp d0))) w := fun a => by
                    unfold execOp
                    rw [ho1]
                    rfl
                  have e0 : (#[o0, o1] : Array Oper)[0]? = some o0 := rfl
                  have e1 : (#[o0, o1] : Array Oper)[1]? = some o1 := rfl
                  have second : wpOpsSIn Fence.wide n P #[o0, o1] (Exit.thenS (rest.wpSIn Fence.wide n P (bodyPostS P fn c₀ cs fun e u' w' => (∃ v, e = Ending.returned v) ∧ ∃ ρ', Post ρ T s w ρ' (s.cut s1) w' ∧ DM ρ' none (settle u'))) (bodyPostS P fn c₀ cs fun e u' w' => (∃ v, e = Ending.returned v) ∧ ∃ ρ', Post ρ T s w ρ' (s.cut s1) w' ∧ DM ρ' none (settle u'))) [1]
                      (({ tmps := vs ++ Array.replicate (fn.ntmps - vs.size) undef, defers := [] } : Act).put (some d0) rv) cs1 w := by
                    simp only [wpOpsSIn, e1, hw1, if_true, hev1, hd1]
                    refine ⟨fun _ _ => trivial, ?_⟩
                    refine wpSIn_of_wpIn rfl (wpIn_mono (k1 ρ T w _ none n (fun _ => rfl) hp0 h2) ?_)
                    rintro E a2 w2 ⟨ρ2, g1, g2, g3⟩
                    have hpost := Post.cut m1 hp g1
                    have hds : a2.defers = [] := by
                      have := g2.defs
                      rw [hdef] at this
                      generalize a2.defers = dd at this
                      cases this
                      rfl
                    have hfr : fn.results = #[] := by
                      have : fn.results.toList = [] := by simpa using hres
                      rw [← Array.toList_inj]; exact this
                    have r1 := results_none hfr a2.tmps P w2
                    have fin : a2.defers = [] ∧ ∃ u', cs1 = { c₀ with mode := u' } :: cs ∧ ∃ v, (results fn a2.tmps).run P w2 = .ok v w2 ∧ ((∃ v', Ending.returned v = .returned v') ∧ ∃ ρ', Post ρ T s w ρ' (s.cut s1) w2 ∧ DM ρ' none (settle u')) :=
                      ⟨hds, u1, hcs1, _, r1, ⟨_, rfl⟩, ρ2, hpost, hu1.mono g1.ext⟩
                    rcases he with rfl | rfl
                    · cases E <;> first | exact g3.elim | exact fin
                    · cases E <;> first | exact g3.elim | exact fin
                  show wpOpsSIn Fence.wide n P #[o0, o1] _ [0, 1] _ _ _
                  rw [wpOpsSIn]
                  simp only [e0, hw0, if_true, hev0, hd0]
                  refine ⟨fun _ _ => trivial, ?_⟩
                  rcases hrec with hrec | ⟨hrec, hrv0, hcs0⟩
                  · simp only [hrec]
                    exact second
                  · simp only [hrec]
                    rw [← hrv0, ← hcs0]
                    exact second
                · cases hh
              · cases hh
            split at h
            · rename_i hd
              cases h
              exact main (.inl rfl) hd rfl rfl
            · rename_i hd
              cases h
              exact main (.inr rfl) hd rfl rfl
            · cases h
          · cases h
        · cases h
      · cases h
    · cases h
  · cases h
end
end Go.Proofs.YtnodnpehjbhphaaGreatDoor.Rk
