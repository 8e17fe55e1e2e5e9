/- What one of the reckoner's operations says of the model's walk. Plain lemmas. -/
import Derived.Test.YtnodnpehjbhphaaGreatDoorRkE12
import Derived.RangeFuncRecord
import Derived.OrdersIn
namespace Go.Proofs.YtnodnpehjbhphaaGreatDoor.Rk
open Go
set_option linter.unusedVariables false
def FW (r : Option Nat) : Fence := { Fence.wide with round := r }
def ResR (ρ : Env) : Res → Ending → Prop
  | .ret v, .returned v' => VR ρ v v'
  | .pan v, .panicked ch => ∃ v', ch = [{ v := v', recovered := false }] ∧ VR ρ v v'
  | _, _ => False
/-- What a call is said to answer is so. -/
def CSound (P : Program) (C : Callee) : Prop := ∀ f args s res s', C f args s = some (res, s') → WfS s → Mono s s' ∧ ∀ (ρ : Env) (T : Nat → Nat → Prop) (w : World) (vs : Array Value), Pre ρ T s s' w → VRL ρ args vs.toList →
  (∀ w1, (callFunc f vs).run P w1 = .ok (.enter f vs) w1) ∧ ∀ n, CallsIn Fence.wide n P f vs w (fun e w' => ∃ ρ', Post ρ T s w ρ' s' w' ∧ ResR ρ' res e)
/-- What a round is said to answer is so. -/
def YSound (P : Program) (Y : Yielder) : Prop := ∀ b args s res s', Y b args s = some (res, s') → WfS s → Mono s s' ∧ ∀ (ρ : Env) (T : Nat → Nat → Prop) (w : World) (vs : Array Value), Pre ρ T s s' w → VRL ρ args vs.toList → ∀ r, ρ b = some r →
  ∃ f tmps assign body, (Instr.yield r.blk vs).run P w = .ok (.round r.blk f tmps assign body) w ∧ ∀ rr n, RoundIn (FW rr) n P r.blk f tmps assign body w (fun e w' => ∃ ρ', Post ρ T s w ρ' s' w' ∧ ResR ρ' res e)
section
variable {P : Program} {ρ : Env} {T : Nat → Nat → Prop} {s s' : St} {w w' : World} {aa : AAct} {a : Act} {C : Callee} {Y : Yielder}
theorem val_wp {r : Option Nat} {n : Nat} {o : Oper} {v : Value} {K : Act → World → Prop} {Q : Exit → Act → World → Prop} (hd : ∀ c, o.op ≠ .defer c) (hy : Yld P a o w v w') (hk : K (a.put o.dst v) w') : o.wpIn (FW r) n P a w K Q := by
  refine ⟨fun _ _ => trivial, ?_⟩
  rw [Oper.semAt_eq _ _ _ hd]
  rcases hy with hy | ⟨hy, rfl⟩
  · rw [hy]; exact hk
  · rw [hy]; exact hk
theorem oneVal_mono {o : Oper} {res : Res} (hC : CSound P C) (hY : YSound P Y) (h : oneVal P C Y aa o s = some (res, s')) (hwf : WfS s) : Mono s s' := by
  unfold oneVal at h
  split at h
  · split at h
    · exact (hC _ _ _ _ _ h hwf).1
    · exact (hY _ _ _ _ _ h hwf).1
    · cases h
  · split at h
    · cases h; exact Mono.refl _
    · cases h
  · cases h
  · split at h
    · rename_i ho
      cases h
      exact aop_mono hwf ho
    · cases h
theorem oneVal_ok {o : Oper} {res : Res} (hC : CSound P C) (hY : YSound P Y) (h : oneVal P C Y aa o s = some (res, s')) (hp : Pre ρ T s s' w) (ha : OpsR ρ aa a o.op) {r : Option Nat} {n : Nat} {K : Act → World → Prop} {Q : Exit → Act → World → Prop}
    (hk : ∀ ρ' w', Post ρ T s w ρ' s' w' → match res with
      | .ret v => ∀ v', VR ρ' v v' → K (a.put o.dst v') w'
      | .pan v => ∀ v', VR ρ' v v' → Q (.panic [{ v := v', recovered := false }]) a w') : o.wpIn (FW r) n P a w K Q := by
  have hwf := hp.wf
  unfold oneVal at h
  split at h
  · rename_i g args ats ho
    have hargs := args_ok (ρ := ρ) (aa := aa) (a := a) (xs := args) (fun x hx => ha x (by rw [ho]; simp [Op.operands, Call.operands, hx]))
    have hg := ha g (by rw [ho]; simp [Op.operands, Call.operands])
    have hnd : ∀ c, o.op ≠ .defer c := fun c => by rw [ho]; simp
    split at h
    · rename_i f first cap hf
      rw [hf] at hg
      generalize hgg : a.eval g = g' at hg
      cases hg with
      | func _ _ _ k' l' h1 h2 =>
      have hall : VRL ρ (first ++ args.toList.map (aeval aa) ++ cap) (k' ++ args.map a.eval ++ l').toList := by
        simp only [Array.toList_append]
        exact (h1.append hargs).append h2
      obtain ⟨_, hc⟩ := hC _ _ _ _ _ h hwf
      obtain ⟨he, hcall⟩ := hc ρ T w _ hp hall
      have hrun : (execOp a.eval o).run P w = .ok (.enter f (k' ++ args.map a.eval ++ l')) w := by
        unfold execOp
        rw [ho]
        simp only [resolve, hgg, Deferred.ofValue, Sem.run_bind, Sem.run_pure, Result.andThen_ok, invoke]
        exact he w
      refine ⟨fun _ _ => trivial, ?_⟩
      rw [Oper.semAt_eq _ _ _ hnd, hrun, Oper.uponIn_enter]
      refine ⟨fun hh => by simp [FW, Fence.wide] at hh, ?_⟩
      have hcall2 : CallsIn (FW r) (n - 1) P f (k' ++ args.map a.eval ++ l') w (fun e w' => ∃ ρ', Post ρ T s w ρ' s' w' ∧ ResR ρ' res e) := hcall (n - 1)
      refine hcall2.mono (fun e w2 ⟨ρ', hpost, hres⟩ => ?_)
      have hk' := hk ρ' w2 hpost
      cases res with
      | ret v =>
        cases e with
        | returned v' => exact hk' v' hres
        | panicked ch => exact hres.elim
        | outgrown => exact hres.elim
      | pan v =>
        cases e with
        | returned v' => exact hres.elim
        | panicked ch => obtain ⟨v', rfl, hv⟩ := hres; exact hk' v' hv
        | outgrown => exact hres.elim
    · rename_i b hf
      rw [hf] at hg
      generalize hgg : a.eval g = g' at hg
      cases hg with
      | yield _ rb hb =>
      obtain ⟨_, hc⟩ := hY _ _ _ _ _ h hwf
      obtain ⟨f, tmps, assign, body, he, hround⟩ := hc ρ T w _ hp hargs rb hb
      have hrun : (execOp a.eval o).run P w = .ok (.round rb.blk f tmps assign body) w := by
        unfold execOp
        rw [ho]
        simp only [resolve, hgg, Deferred.ofValue, Sem.run_bind, Sem.run_pure, Result.andThen_ok, invoke]
        simpa using he
      refine ⟨fun _ _ => trivial, ?_⟩
      rw [Oper.semAt_eq _ _ _ hnd, hrun, Oper.uponIn_round]
      refine ⟨fun hh => by simp [FW, Fence.wide] at hh, ?_⟩
      refine (hround r (n - 1)).mono (fun e w2 ⟨ρ', hpost, hres⟩ => ?_)
      have hk' := hk ρ' w2 hpost
      cases res with
      | ret v =>
        cases e with
        | returned v' => exact hk' v' hres
        | panicked ch => exact hres.elim
        | outgrown => exact hres.elim
      | pan v =>
        cases e with
        | returned v' => exact hres.elim
        | panicked ch => obtain ⟨v', rfl, hv⟩ := hres; exact hk' v' hv
        | outgrown => exact hres.elim
    · cases h
  · rename_i x ho
    split at h
    · rename_i t v0 hx
      cases h
      have hxv := ha x (by rw [ho]; simp [Op.operands])
      rw [hx] at hxv
      have hnd : ∀ c, o.op ≠ .defer c := fun c => by rw [ho]; simp
      have hk' := hk ρ w (Post.same hp.good rfl rfl (Still.refl w)) _ hxv
      generalize hgg : a.eval x = x' at hxv hk'
      cases hxv with
      | iface _ _ v1 h1 =>
      refine ⟨fun _ _ => trivial, ?_⟩
      have hrun : (execOp a.eval o).run P w = .halt (.panic (.iface t v1)) w := by
        unfold execOp
        rw [ho]
        simp only [hgg, Sem.run_bind]
        rfl
      rw [Oper.semAt_eq _ _ _ hnd, hrun]
      exact hk'
    · cases h
  · cases h
  · rename_i hne1 hne2 hne3
    split at h
    · rename_i v s1 ho
      cases h
      obtain ⟨ρ', w', v', h1, h2, h3⟩ := aop_ok ho hp ha
      exact val_wp (fun c hc => hne3 c hc) h1 (hk ρ' w' h2 v' h3)
    · cases h
end
end Go.Proofs.YtnodnpehjbhphaaGreatDoor.Rk
