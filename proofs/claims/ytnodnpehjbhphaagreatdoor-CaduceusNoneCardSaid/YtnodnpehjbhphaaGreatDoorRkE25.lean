/- Calls. Plain lemmas. -/
import Derived.Test.YtnodnpehjbhphaaGreatDoorRkE24
namespace Go.Proofs.YtnodnpehjbhphaaGreatDoor.Rk
open Go
set_option linter.unusedVariables false
/-- No function with a body is the one that counts goroutines. -/
def plainFuncs (P : Program) : Bool := P.funcs.all fun fn => fn.body.isNone || fn.name != "runtime.NumGoroutine"
theorem enters {P : Program} (hP : plainFuncs P = true) {f : FuncId} {fn : Func} {c : Code} (hf : P.funcs[f]? = some fn) (hb : fn.body = some c) (vs : Array Value) (w : World) : (callFunc f vs).run P w = .ok (.enter f vs) w := by
  have h := Array.all_eq_true.1 hP f (Array.getElem?_eq_some_iff.1 hf).1
  have e : P.funcs[f]'(Array.getElem?_eq_some_iff.1 hf).1 = fn := (Array.getElem?_eq_some_iff.1 hf).2
  rw [e, hb] at h
  have h2 : (fn.name == "runtime.NumGoroutine") = false := by
    simp only [Option.isNone_some, Bool.false_or, bne_iff_ne, ne_eq] at h
    simpa using h
  unfold callFunc
  simp only [Sem.run_bind]
  have hprog : (program).run P w = .ok P w := rfl
  rw [hprog]
  simp only [Result.andThen_ok, hf, h2, hb, Option.isNone_some, Bool.false_eq_true, if_false, Sem.run_pure]
/-- What was told ahead is so. -/
def TSound (P : Program) (O : Told) : Prop := ∀ f g, O f = some g → ∀ args s v s', g args s = some (v, s') → WfS s → Mono s s' ∧ ∀ (ρ : Env) (T : Nat → Nat → Prop) (w : World) (vs : Array Value), Pre ρ T s s' w → VRL ρ args vs.toList →
  (∀ w1, (callFunc f vs).run P w1 = .ok (.enter f vs) w1) ∧ ∀ n, CallsIn Fence.wide n P f vs w (fun e w' => ∃ ρ', Post ρ T s w ρ' s' w' ∧ ResR ρ' (.ret v) e)
section
variable {P : Program} {D : DCallee} {C : Callee}
theorem body_ok (hP : plainFuncs P = true) (hm : P.follows .mixedOrders = true) (hC : CSound P C) (hD : DSound P D) (fuel : Nat) : CSound P (body P C D fuel) := by
  intro f args s res s' h hwf
  unfold body at h
  split at h
  · rename_i fn hf
    split at h
    · rename_i c hb
      split at h
      · rename_i hlen
        split at h
        · rename_i e aa1 s1 hev
          split at h
          · rename_i p hend
            have hw0 : WfS { s with log := [] } := hwf
            obtain ⟨m1, k1⟩ := (ev_ok hm hC fuel).1 false _ _ _ _ _ _ hev hw0
            -- the rest, once the end is known
            have main : ∀ (p' : Option AV) (s2 q : St), runDefs D aa1.defs p s1 = some (p', s2) → Mono s2 q → s' = s.cut q →
                (∀ (ρ : Env) (T : Nat → Nat → Prop) (w : World) (a : Act) (u : FrameMode) (n : Nat) (R : Ending → World → Prop), Pre ρ T s2 q w → ActR ρ aa1 a → DM ρ p' u → (∀ ρ' w' e, Post ρ T s2 w ρ' q w' → ResR ρ' res e → R e w') → LeavesIn Fence.wide n P fn a.tmps R [] u w) →
                Mono s s' ∧ ∀ (ρ : Env) (T : Nat → Nat → Prop) (w : World) (vs : Array Value), Pre ρ T s s' w → VRL ρ args vs.toList →
                  (∀ w1, (callFunc f vs).run P w1 = .ok (.enter f vs) w1) ∧ ∀ n, CallsIn Fence.wide n P f vs w (fun e w' => ∃ ρ', Post ρ T s w ρ' s' w' ∧ ResR ρ' res e) := by
              intro p' s2 q hrd m3 hs' hfin
              subst hs'
              have m2 := runDefs_mono hD hrd (m1.wf hw0)
              have mall := m1.trans (m2.trans m3)
              refine ⟨mall.cut hwf, fun ρ T w vs hp hargs => ⟨fun w1 => enters hP hf hb vs w1, fun n => ?_⟩⟩
              have hp0 := hp.cut mall
              refine callsIn_of_wp_marks hf hb trivial ?_
              refine wpIn_mono (k1 ρ T w _ none n (fun _ => rfl) (hp0.first (m2.trans m3)) (start_ok hargs hlen)) ?_
              rintro E a1 w1 ⟨ρ1, g1, g2, g3⟩
              have hp1 := hp0.next m1 (m2.trans m3) g1
              have fin : ∀ u, DM ρ1 p u → LeavesInM Fence.wide n P fn a1.tmps (fun e w' => ∃ ρ', Post ρ T s w ρ' (s.cut q) w' ∧ ResR ρ' res e) a1.defers u w1 := by
                intro u hu
                refine runDefs_ok hD hrd (hp1.first m3) g2.defs hu (fun ρ2 w2 u2 h2 hu2 => ?_)
                refine hfin ρ2 _ w2 a1 u2 n _ (hp1.next m2 m3 h2) (g2.mono h2.ext) hu2 (fun ρ3 w3 e3 h3 hr3 => ?_)
                exact ⟨ρ3, Post.cut mall hp (Post.trans m1 (m2.trans m3) g1 (Post.trans m2 m3 h2 h3)), hr3⟩
              cases e <;> cases E <;> simp only [ExR] at g3 <;> simp only [endOf, Option.some.injEq, reduceCtorEq] at hend
              · subst hend; exact fin .returning trivial
              · subst hend; exact fin .returning trivial
              · subst hend; exact fin _ g3
            split at h
            · rename_i s2 hrd
              split at h
              · rename_i vs s3 hres
                cases h
                refine main none s2 s3 hrd (resA_mono hres) rfl (fun ρ T w a u n R hp ha hu hk => ?_)
                cases u with
                | run => exact hu.elim
                | panicking ch => exact hu.elim
                | returning =>
                obtain ⟨v, g1, g2, g3⟩ := results_ok hres hp ha
                exact ⟨v, g1, hk ρ w _ g3 g2⟩
              · cases h
            · rename_i v s2 hrd
              cases h
              refine main (some v) s2 s2 hrd (Mono.refl _) rfl (fun ρ T w a u n R hp ha hu hk => ?_)
              cases u with
              | run => exact hu.elim
              | returning => exact hu.elim
              | panicking ch => exact hk ρ w _ (Post.refl hp) hu
            · cases h
          · cases h
        · cases h
      · cases h
    · cases h
  · cases h
theorem call_ok {O : Told} (hP : plainFuncs P = true) (hm : P.follows .mixedOrders = true) (hO : TSound P O) (hD : DSound P D) (fuel : Nat) : ∀ d, CSound P (call P O D fuel d)
  | 0 => fun f args s res s' h => by simp [call] at h
  | d + 1 => fun f args s res s' h hwf => by
    unfold call at h
    split at h
    · rename_i g hg
      split at h
      · rename_i v s1 h1
        cases h
        exact hO f g hg _ _ _ _ h1 hwf
      · cases h
    · exact body_ok hP hm (call_ok hP hm hO hD fuel d) hD fuel f args s res s' h hwf
end
end Go.Proofs.YtnodnpehjbhphaaGreatDoor.Rk
