/- What the reckoner's operations one behind the other say of a region that keeps its order. Plain lemmas. -/
import Derived.Test.YtnodnpehjbhphaaGreatDoorRkE13
import Derived.TacticsIn
namespace Go.Proofs.YtnodnpehjbhphaaGreatDoor.Rk
open Go
set_option linter.unusedVariables false
def OR.st : OR → Option St
  | .ok _ s => some s
  | .pan _ _ s => some s
  | .no => none
/-- What is asked behind operations. -/
def ORQ (Q : Exit → Act → World → Prop) (ρ : Env) (T : Nat → Nat → Prop) (s : St) (w : World) : OR → Prop
  | .ok aa s' => ∀ ρ' a w', Post ρ T s w ρ' s' w' → ActR ρ' aa a → Q .normal a w'
  | .pan aa v s' => ∀ ρ' a w' v', Post ρ T s w ρ' s' w' → ActR ρ' aa a → VR ρ' v v' → Q (.panic [{ v := v', recovered := false }]) a w'
  | .no => False
section
variable {P : Program} {ρ : Env} {T : Nat → Nat → Prop} {s s' : St} {w w' : World} {aa : AAct} {a : Act} {C : Callee} {Y : Yielder}
theorem wanted_ok {ops : List Oper} {opsA : Array Oper} {o : Oper} {b : Bool} (h : wantedA ops o aa = some b) (hop : opsA.toList = ops) (hg : ∀ j c d, o.guard = some (j, c) → (ops[j]?).bind (·.dst) = some d → VR ρ (aa.get d) (a.tmps.getD d undef)) : Region.wanted o (yielded opsA a.tmps) = b := by
  unfold wantedA at h
  unfold Region.wanted yielded
  cases hgd : o.guard with
  | none => rw [hgd] at h; cases h; rfl
  | some p =>
    obtain ⟨j, c⟩ := p
    rw [hgd] at h
    have he : opsA[j]? = ops[j]? := by rw [← hop, Array.getElem?_toList]
    simp only [he]
    simp only at h
    cases hd : (ops[j]?).bind (·.dst) with
    | none => rw [hd] at h; cases h; rfl
    | some d =>
      rw [hd] at h
      simp only at h
      have hv := hg j c d hgd hd
      simp only [Option.bind_some]
      split at h
      · rename_i b' hb
        cases h
        rw [hb] at hv
        have : a.tmps[d]? = some (.bool b') := by
          cases hx : a.tmps[d]? with
          | none => rw [Array.getD_eq_getD_getElem?, hx] at hv; cases hv
          | some x =>
            rw [Array.getD_eq_getD_getElem?, hx] at hv
            simp only [Option.getD_some] at hv
            cases hv
            rfl
        rw [this]
        cases b' <;> cases c <;> rfl
      · cases h
      · rename_i h1 h2
        cases h
        cases hx : a.tmps[d]? with
        | none => rfl
        | some x =>
          rw [Array.getD_eq_getD_getElem?, hx] at hv
          simp only [Option.getD_some] at hv
          cases x <;> first | rfl | skip
          rename_i bb
          generalize haa : aa.get d = y at *
          cases hv with
          | top => exact absurd rfl h2
          | bool => exact absurd rfl (h1 bb)
theorem ActR.ops (h : ActR ρ aa a) (o : Op) : OpsR ρ aa a o := fun x _ => h.eval x
theorem Post.refl (hp : Pre ρ T s s w) : Post ρ T s w ρ s w := Post.same hp.good rfl rfl (Still.refl w)
theorem oneOp_mono {R : Bool} {o : Oper} {x : OR} (hC : CSound P C) (hY : YSound P Y) (hwf : WfS s) (h : oneOp P C Y R aa o s = x) (hs : x.st = some s') : Mono s s' := by
  subst h
  unfold oneOp at hs
  split at hs
  · split at hs
    · split at hs
      · cases hs
      · cases hs; exact Mono.refl _
    · cases hs
  · cases hv : oneVal P C Y aa o s with
    | none => rw [hv] at hs; cases hs
    | some p =>
      obtain ⟨res, s1⟩ := p
      rw [hv] at hs
      have := oneVal_mono hC hY hv hwf
      cases res <;> (cases hs; exact this)
/-- One operation. -/
theorem oneOp_ok {R : Bool} {o : Oper} {x : OR} (hC : CSound P C) (hY : YSound P Y) (h : oneOp P C Y R aa o s = x) (hs : x.st = some s') (hp : Pre ρ T s s' w) (ha : ActR ρ aa a) {r : Option Nat} (hr : R = false → r = none) {n : Nat} {Q : Exit → Act → World → Prop} {K : Act → World → Prop}
    (hk : ORQ (fun e a w => match e with | .normal => K a w | e => Q e a w) ρ T s w x) : o.wpIn (FW r) n P a w K Q := by
  subst h
  unfold oneOp at hs hk
  split at hs
  · rename_i g args ats ho
    split at hs
    · rename_i f first cap hf
      split at hs
      · cases hs
      · rename_i hR
        cases hs
        have hrn := hr (by simpa using hR)
        subst hrn
        simp only [ho, hf] at hk
        rw [if_neg hR] at hk
        have hg := ha.eval g
        rw [hf] at hg
        generalize hgg : a.eval g = g' at hg
        cases hg with
        | func _ _ _ k' l' h1 h2 =>
        have hargs := ha.args args
        have hd : DefR ρ (.fn f (first ++ args.toList.map (aeval aa) ++ cap)) { target := .fn (.func f) l', args := k' ++ args.map a.eval } := .fn _ _ _ _ (by
          simp only [Array.toList_append]
          exact (h1.append hargs).append h2)
        have hrun : (execOp a.eval o).run P w = .ok (.defer { target := .fn (.func f) l', args := k' ++ args.map a.eval }) w := by
          unfold execOp
          rw [ho]
          simp only [resolve, hgg, Deferred.ofValue, Sem.run_bind, Sem.run_pure, Result.andThen_ok]
        refine ⟨fun _ _ => trivial, ?_⟩
        show o.uponIn (FW none) n P a K Q ((Oper.semAt none a.eval o).run P w)
        rw [Oper.semAt_none, hrun]
        have hact : ActR ρ { aa with defs := .fn f (first ++ args.toList.map (aeval aa) ++ cap) :: aa.defs } { a with defers := { target := .fn (.func f) l', args := k' ++ args.map a.eval } :: a.defers } := ⟨ha.size, ha.get, .cons _ _ _ _ hd ha.defs⟩
        exact hk ρ _ w (Post.refl hp) (hact.put o.dst undef_ok)
    · cases hs
  · rename_i hnd
    have hk : ORQ (fun e a w => match e with | .normal => K a w | e => Q e a w) ρ T s w (resOf aa o.dst (oneVal P C Y aa o s)) := by
      split at hk
      · rename_i g args ats ho
        exact absurd ho (hnd g args ats)
      · exact hk
    cases hv : oneVal P C Y aa o s with
    | none => rw [hv] at hs; cases hs
    | some p =>
      obtain ⟨res, s1⟩ := p
      rw [hv] at hs hk
      have hs1 : s1 = s' := by cases res <;> (cases hs; rfl)
      subst hs1
      refine oneVal_ok hC hY hv hp (ha.ops _) (fun ρ' w' hpost => ?_)
      cases res with
      | ret v => exact fun v' hvv => hk ρ' _ w' hpost ((ha.mono hpost.ext).put o.dst hvv)
      | pan v => exact fun v' hvv => hk ρ' a w' v' hpost (ha.mono hpost.ext) hvv
theorem runOps_mono {R : Bool} {ops : List Oper} (hC : CSound P C) (hY : YSound P Y) : ∀ (l : List Oper) {aa : AAct} {s : St} {x : OR} {s' : St}, WfS s → runOps P C Y R ops l aa s = x → x.st = some s' → Mono s s'
  | [], aa, s, x, s', hwf, h, hs => by
    unfold runOps at h
    subst h
    cases hs
    exact Mono.refl _
  | o :: l, aa, s, x, s', hwf, h, hs => by
    unfold runOps at h
    split at h
    · cases h1 : oneOp P C Y R aa o s with
      | no => rw [h1] at h; subst h; cases hs
      | pan aa1 v s1 =>
        rw [h1] at h
        subst h
        exact oneOp_mono hC hY hwf h1 hs
      | ok aa1 s1 =>
        rw [h1] at h
        have m1 := oneOp_mono hC hY hwf h1 rfl
        exact m1.trans (runOps_mono hC hY l (m1.wf hwf) h hs)
    · exact runOps_mono hC hY l hwf h hs
    · subst h; cases hs
theorem ORQ.after {Q : Exit → Act → World → Prop} {ρ1 : Env} {s1 : St} {w1 : World} {x : OR} {s' : St} (hs : x.st = some s') (m1 : Mono s s1) (m2 : Mono s1 s') (hpost : Post ρ T s w ρ1 s1 w1) (h : ORQ Q ρ T s w x) : ORQ Q ρ1 (Tn T s.n s1.n) s1 w1 x := by
  cases x with
  | no => cases hs
  | ok aa s2 => cases hs; exact fun ρ' a w' hp ha => h ρ' a w' (hpost.trans m1 m2 hp) ha
  | pan aa v s2 => cases hs; exact fun ρ' a w' v' hp ha hv => h ρ' a w' v' (hpost.trans m1 m2 hp) ha hv
/-- Operations one behind the other. -/
theorem runOps_ok {R : Bool} {ops : List Oper} {opsA : Array Oper} (hop : opsA.toList = ops) (hC : CSound P C) (hY : YSound P Y) {r : Option Nat} (hr : R = false → r = none) {n : Nat} {Q : Exit → Act → World → Prop} : ∀ (l : List Oper) {aa : AAct} {s : St} {x : OR} {s' : St} {ρ : Env} {T : Nat → Nat → Prop} {w : World} {a : Act},
    runOps P C Y R ops l aa s = x → x.st = some s' → Pre ρ T s s' w → ActR ρ aa a → ORQ Q ρ T s w x → wpListIn (FW r) n P opsA Q l a w
  | [], aa, s, x, s', ρ, T, w, a, h, hs, hp, ha, hk => by
    unfold runOps at h
    subst h
    cases hs
    exact hk ρ a w (Post.refl hp) ha
  | o :: l, aa, s, x, s', ρ, T, w, a, h, hs, hp, ha, hk => by
    unfold runOps at h
    have hguard : ∀ b, wantedA ops o aa = some b → Region.wanted o (yielded opsA a.tmps) = b := fun b hb => wanted_ok hb hop (fun j c d _ _ => ha.get d)
    unfold wpListIn
    split at h
    · rename_i hw
      rw [if_pos (hguard true hw)]
      cases h1 : oneOp P C Y R aa o s with
      | no => rw [h1] at h; subst h; cases hs
      | pan aa1 v s1 =>
        rw [h1] at h
        subst h
        exact oneOp_ok hC hY h1 hs hp ha hr (fun ρ' a' w' v' hpost ha' hv => hk ρ' a' w' v' hpost ha' hv)
      | ok aa1 s1 =>
        rw [h1] at h
        have m1 := oneOp_mono hC hY hp.wf h1 rfl
        have m2 := runOps_mono hC hY l (m1.wf hp.wf) h hs
        refine oneOp_ok hC hY h1 rfl (hp.first m2) ha hr (fun ρ' a' w' hpost ha' => ?_)
        exact runOps_ok hop hC hY hr l h hs (hp.next m1 m2 hpost) ha' (hk.after hs m1 m2 hpost)
    · rename_i hw
      rw [if_neg (by rw [hguard false hw]; simp)]
      exact ⟨fun _ _ => trivial, runOps_ok hop hC hY hr l h hs hp (ha.put o.dst undef_ok) hk⟩
    · subst h; cases hs
end
end Go.Proofs.YtnodnpehjbhphaaGreatDoor.Rk
