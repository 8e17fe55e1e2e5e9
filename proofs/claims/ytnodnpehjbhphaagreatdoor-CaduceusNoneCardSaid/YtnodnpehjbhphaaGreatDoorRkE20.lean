/- Code: what the reckoner says of its walk. Plain lemmas. -/
import Derived.Test.YtnodnpehjbhphaaGreatDoorRkE19
import Derived.LoopNIn
import Derived.ScopeJumps
namespace Go.Proofs.YtnodnpehjbhphaaGreatDoor.Rk
open Go
set_option linter.unusedVariables false
-- ## a scope, jump by jump
def jumpsIn (F : Fence) (n : Nat) (P : Program) (c : Code) (Q : Exit → Act → World → Prop) : Nat → Nat → Act → World → Prop
  | 0, _, _, _ => False
  | m + 1, l, a, w => ∃ rest, findLabel c l = some rest ∧ rest.wpIn F n P (fun e a w => match e with | .goto l => jumpsIn F n P c Q m l a w | e => Q e a w) a w
theorem jumpsIn_mono {F : Fence} {n : Nat} {P : Program} {c : Code} {Q Q' : Exit → Act → World → Prop} (hq : ∀ e a w, Q e a w → Q' e a w) : ∀ m l a w, jumpsIn F n P c Q m l a w → jumpsIn F n P c Q' m l a w
  | 0, _, _, _, h => h
  | m + 1, l, a, w, ⟨rest, h1, h2⟩ => ⟨rest, h1, wpIn_mono h2 (fun e a w h => by
      cases e <;> first | exact jumpsIn_mono hq m _ _ _ h | exact hq _ _ _ h)⟩
theorem stepR_scope {P : Program} {b : Frame} {a : Act} {k : List Item} {cs : List Frame} {w : World} {c : Code} : step P (lone (b.atR a (.code (.scope c) :: k)) cs w) = .next (lone (b.atR a (.code c :: .inScope c :: k)) cs w) :=
  step_lone_go (by simp [stepG, stepG.exec, Frame.atR])
theorem stepR_inScope {P : Program} {b : Frame} {a : Act} {k : List Item} {cs : List Frame} {w : World} {c : Code} : step P (lone (b.atR a (.inScope c :: k)) cs w) = .next (lone (b.atR a k) cs w) :=
  step_lone_go (by simp [stepG, stepG.exec, Frame.atR])
theorem wpIn_scope_jumps {F : Fence} {n : Nat} {P : Program} {c : Code} {Q : Exit → Act → World → Prop} {a : Act} {w : World} (h : c.wpIn F n P (fun e a w => match e with | .goto l => ∃ m, jumpsIn F n P c Q m l a w | e => Q e a w) a w) : (Code.scope c).wpIn F n P Q a w := by
  intro b k cs hro hb hr
  have key : ∀ m l a w, jumpsIn F n P c Q m l a w → ∃ rest, findLabel c l = some rest ∧ ∃ e a' w', Q e a' w' ∧ ArrivesIn (Machine.fenced P F) P (lone (b.atR a (.code rest :: .inScope c :: k)) cs w) b k cs e a' w' := by
    intro m
    induction m with
    | zero => intro l a w h; exact h.elim
    | succ m ih =>
      intro l a w h
      obtain ⟨rest, hf, h⟩ := h
      refine ⟨rest, hf, ?_⟩
      obtain ⟨e, a₁, w₁, hq, harr⟩ := h b (.inScope c :: k) cs hro hb hr
      cases e with
      | normal => exact ⟨.normal, a₁, w₁, hq, StepsIn.trans harr (.one (fenced_calm hb hr rfl) stepR_inScope)⟩
      | exit id =>
        have hx : exitTo id (.inScope c :: k) = exitTo id k := by simp [exitTo]
        exact ⟨.exit id, a₁, w₁, hq, fun k' hk => harr.1 k' (by rw [hx]; exact hk), fun hr' hk => harr.2 hr' (by rw [hx]; exact hk)⟩
      | goto l' =>
        obtain ⟨rest', hf', e₂, a₂, w₂, hq₂, harr₂⟩ := ih l' a₁ w₁ hq
        exact ⟨e₂, a₂, w₂, hq₂, .of_steps (harr.1 (.code rest' :: .inScope c :: k) (by simp [gotoIn, hf'])) harr₂⟩
      | ret => exact ⟨_, a₁, w₁, hq, harr⟩
      | panic ch => exact ⟨_, a₁, w₁, hq, harr⟩
      | outgrown => exact ⟨_, a₁, w₁, hq, harr⟩
  have h0 : (lone (b.atR a (.code (.scope c) :: k)) cs w).fenced P F := fenced_calm hb hr rfl
  obtain ⟨e, a₁, w₁, hq, harr⟩ := h b (.inScope c :: k) cs hro hb hr
  cases e with
  | normal => exact ⟨.normal, a₁, w₁, hq, .head h0 stepR_scope (StepsIn.trans harr (.one (fenced_calm hb hr rfl) stepR_inScope))⟩
  | exit id =>
    have hx : exitTo id (.inScope c :: k) = exitTo id k := by simp [exitTo]
    exact ⟨.exit id, a₁, w₁, hq, fun k' hk => .head h0 stepR_scope (harr.1 k' (by rw [hx]; exact hk)), fun hr' hk => let ⟨k₁, g1, g2⟩ := harr.2 hr' (by rw [hx]; exact hk); ⟨k₁, g1, .head h0 stepR_scope g2⟩⟩
  | goto l' =>
    obtain ⟨m, hm⟩ := hq
    obtain ⟨rest', hf', e₂, a₂, w₂, hq₂, harr₂⟩ := key m l' a₁ w₁ hm
    exact ⟨e₂, a₂, w₂, hq₂, .of_steps (.head h0 stepR_scope (harr.1 (.code rest' :: .inScope c :: k) (by simp [gotoIn, hf']))) harr₂⟩
  | ret => exact ⟨_, a₁, w₁, hq, .of_steps (.one h0 stepR_scope) harr⟩
  | panic ch => exact ⟨_, a₁, w₁, hq, .of_steps (.one h0 stepR_scope) harr⟩
  | outgrown => exact ⟨_, a₁, w₁, hq, .of_steps (.one h0 stepR_scope) harr⟩
-- ## the statements
def ExR (ρ : Env) : AExit → Exit → Prop
  | .normal, .normal => True
  | .exit i, .exit j => i = j
  | .goto i, .goto j => i = j
  | .ret, .ret => True
  | .panic v, .panic ch => ∃ v', ch = [{ v := v', recovered := false }] ∧ VR ρ v v'
  | _, _ => False
def EvPost (ρ : Env) (T : Nat → Nat → Prop) (s : St) (w : World) (e : AExit) (aa' : AAct) (s' : St) (E : Exit) (a' : Act) (w' : World) : Prop := ∃ ρ', Post ρ T s w ρ' s' w' ∧ ActR ρ' aa' a' ∧ ExR ρ' e E
theorem EvPost.after {ρ ρ1 : Env} {T : Nat → Nat → Prop} {s s1 s2 : St} {w w1 w2 : World} {e : AExit} {aa : AAct} {E : Exit} {a : Act} (m1 : Mono s s1) (m2 : Mono s1 s2) (h : Post ρ T s w ρ1 s1 w1) (k : EvPost ρ1 (Tn T s.n s1.n) s1 w1 e aa s2 E a w2) : EvPost ρ T s w e aa s2 E a w2 :=
  let ⟨ρ', g1, g2, g3⟩ := k; ⟨ρ', Post.trans m1 m2 h g1, g2, g3⟩
abbrev Ev := Code → AAct → St → Option (AExit × AAct × St)
def EvS (P : Program) (E : Ev) (R : Bool) : Prop := ∀ c aa s e aa' s', E c aa s = some (e, aa', s') → WfS s → Mono s s' ∧
  ∀ ρ T w a r n, (R = false → r = none) → Pre ρ T s s' w → ActR ρ aa a → c.wpIn (FW r) n P (EvPost ρ T s w e aa' s') a w
def JuS (P : Program) (J : Code → Nat → AAct → St → Option (AExit × AAct × St)) (R : Bool) (m : Nat) : Prop := ∀ c l aa s e aa' s', J c l aa s = some (e, aa', s') → WfS s → Mono s s' ∧
  ∀ ρ T w a r n, (R = false → r = none) → Pre ρ T s s' w → ActR ρ aa a → jumpsIn (FW r) n P c (EvPost ρ T s w e aa' s') m l a w
def LoS (P : Program) (E : Ev) (R : Bool) (m : Nat) : Prop := ∀ c aa s e aa' s', E (.loop c) aa s = some (e, aa', s') → WfS s → Mono s s' ∧
  ∀ ρ T w a r n, (R = false → r = none) → Pre ρ T s s' w → ActR ρ aa a → Code.roundsIn (FW r) n P c (EvPost ρ T s w e aa' s') m a w
theorem rounds_mono {F : Fence} {n : Nat} {P : Program} {c : Code} {Q Q' : Exit → Act → World → Prop} (hq : ∀ e a w, Q e a w → Q' e a w) : ∀ m a w, Code.roundsIn F n P c Q m a w → Code.roundsIn F n P c Q' m a w
  | 0, _, _, h => h
  | m + 1, a, w, h => wpIn_mono h (fun e a w h => by
      cases e <;> first | exact rounds_mono hq m _ _ h | exact hq _ _ _ h)
section
variable {P : Program} {ρ : Env} {T : Nat → Nat → Prop} {s s' : St} {w w' : World} {aa aa' : AAct} {a : Act} {E : Ev} {R : Bool}
theorem FW_none : FW none = Fence.wide := rfl
/-- What lies in a loop's record. -/
theorem loop_at {b : Nat} {ready : Bool} {p : Option Code} {sz : Nat} {tmps : Tr AV} {ps : List Tmp} {assign body : Code} {d : Nat} (h : Good ρ T s.heap.get w) (hT : ∃ i, T b i) (hb : s.heap.get b = some (.loop ready p sz tmps ps assign body d)) {r : RB} (hr : ρ b = some r) :
    ∃ fn tmps' q, ρ d = some q ∧ w.heap[r.blk]? = some (.loop { state := loopState ready p, pending := p, fn := fn, tmps := tmps', params := ps.toArray, assign := assign, body := body, defers := q.blk }) ∧ tmps'.size = sz ∧ ∀ t, VR ρ ((tmps.get t).getD (.tuple [])) (tmps'.getD t undef) := by
  obtain ⟨r1, fn, tmps', q, h1, h2, h3, h4, h5⟩ := h.sat b _ hb hT
  have : r1 = r := Option.some.inj (h1.symm.trans hr)
  subst this
  exact ⟨fn, tmps', q, h2, h3, h4, h5⟩
theorem alt_put (w : World) {B : Nat} {x : Obj} (o : Obj) (h : w.heap[B]? = some x) : Alt w (w.putObj B o) B o :=
  ⟨rfl, rfl, rfl, World.putObj_size, World.putObj_heap_same (lt_of_some h), fun _ hB => World.putObj_heap_other hB⟩
/-- A loop's record is changed. -/
theorem loop_alt {b : Nat} {ready ready' : Bool} {p p' : Option Code} {sz : Nat} {tmps : Tr AV} {ps : List Tmp} {assign body : Code} {d : Nat} (h : Good ρ T s.heap.get w) (hT : ∃ i, T b i) (hb : s.heap.get b = some (.loop ready p sz tmps ps assign body d)) {r : RB} (hr : ρ b = some r)
    {fn : FuncId} {tmps' : Array Value} {q : RB} (hq : ρ d = some q) (hw : w.heap[r.blk]? = some (.loop { state := loopState ready p, pending := p, fn := fn, tmps := tmps', params := ps.toArray, assign := assign, body := body, defers := q.blk })) (hz : tmps'.size = sz) (ht : ∀ t, VR ρ ((tmps.get t).getD (.tuple [])) (tmps'.getD t undef)) :
    Post ρ T s w ρ ((s.put b (.loop ready' p' sz tmps ps assign body d)).note (.all b)) (w.putObj r.blk (.loop { state := loopState ready' p', pending := p', fn := fn, tmps := tmps', params := ps.toArray, assign := assign, body := body, defers := q.blk })) :=
  Post.alt h hb trivial hT hr (alt_put w _ hw) ⟨r, fn, tmps', q, hr, hq, World.putObj_heap_same (lt_of_some hw), hz, ht⟩
theorem setPs_ok : ∀ (ps : List Tmp) (args : List AV) (vs : List Value) (aa : AAct) (ts : Array Value), VRL ρ args vs → args.length = ps.length → ActR ρ aa { tmps := ts, defers := [] } →
    ActR ρ (setPs ps args aa) { tmps := (ps.zip vs).foldl (fun tmps (t, a) => tmps.setIfInBounds t a) ts, defers := [] }
  | [], [], _, aa, ts, .nil, _, h => h
  | p :: ps, x :: args, _, aa, ts, .cons _ v _ vs hx hl, hn, h => by
    have := setPs_ok ps args vs (aa.putT p x) (ts.setIfInBounds p v) hl (by simpa using hn) (h.putT p hx)
    exact this
  | [], x :: args, _, aa, ts, _, hn, h => by simp at hn
  | p :: ps, [], _, aa, ts, _, hn, h => by simp at hn
end
end Go.Proofs.YtnodnpehjbhphaaGreatDoor.Rk
