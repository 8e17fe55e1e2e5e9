/- Code, all of it. Plain lemmas. -/
import Derived.Test.YtnodnpehjbhphaaGreatDoorRkE21
namespace Go.Proofs.YtnodnpehjbhphaaGreatDoor.Rk
open Go
set_option linter.unusedVariables false
section
variable {P : Program} {C : Callee}
theorem ex_norm {ρ : Env} {e : AExit} {E : Exit} (h : ExR ρ e E) (he : e ≠ .normal) : E ≠ .normal := by
  intro hE; subst hE
  cases e <;> first | exact he rfl | exact h
theorem ex_goto {ρ : Env} {e : AExit} {l : Nat} (h : ExR ρ e (.goto l)) : e = .goto l := by
  cases e <;> first | exact h.elim | (have := h; simp only [ExR] at this; rw [this])
theorem ex_exit {ρ : Env} {e : AExit} {l : Nat} (h : ExR ρ e (.exit l)) : e = .exit l := by
  cases e <;> first | exact h.elim | (have := h; simp only [ExR] at this; rw [this])
theorem Add.alloc (w : World) (o : Obj) : Add w (w.alloc o) o := Add.push w o
theorem ev_ok (hm : P.follows .mixedOrders = true) (hC : CSound P C) : ∀ f, (∀ R, EvS P (ev P C f R) R) ∧ (∀ R, JuS P (jump P C f R) R f) ∧ ∀ R, LoS P (ev P C f R) R f
  | 0 => ⟨fun R c aa s e aa' s' h => by simp [ev] at h, fun R c l aa s e aa' s' h => by simp [jump] at h, fun R c aa s e aa' s' h => by simp [ev] at h⟩
  | f + 1 => by
    obtain ⟨ihE, ihJ, ihL⟩ := ev_ok hm hC f
    have hL : ∀ R, LoS P (ev P C (f + 1) R) R (f + 1) := by
      intro R c aa s e aa' s' h hwf
      unfold ev at h
      simp only at h
      split at h
      · rename_i aa1 s1 h1
        obtain ⟨m1, k1⟩ := ihE R _ _ _ _ _ _ h1 hwf
        obtain ⟨m2, k2⟩ := ihL R _ _ _ _ _ _ h (m1.wf hwf)
        refine ⟨m1.trans m2, fun ρ T w a r n hr hp ha => ?_⟩
        rw [roundsIn_succ]
        refine wpIn_mono (k1 ρ T w a r n hr (hp.first m2) ha) ?_
        rintro E1 a1 w1 ⟨ρ1, g1, g2, g3⟩
        cases E1 <;> try exact g3.elim
        exact rounds_mono (fun E2 a2 w2 h2 => h2.after m1 m2 g1) _ _ _ (k2 ρ1 _ w1 a1 r n hr (hp.next m1 m2 g1) g2)
      · rename_i hne
        obtain ⟨m1, k1⟩ := ihE R _ _ _ _ _ _ h hwf
        refine ⟨m1, fun ρ T w a r n hr hp ha => ?_⟩
        rw [roundsIn_succ]
        refine wpIn_mono (k1 ρ T w a r n hr hp ha) ?_
        rintro E1 a1 w1 ⟨ρ1, g1, g2, g3⟩
        have hen : e ≠ .normal := fun he => hne aa' s' (by rw [h, he])
        cases E1 <;> first | exact absurd rfl (ex_norm g3 hen) | exact ⟨ρ1, g1, g2, g3⟩
    refine ⟨fun R c aa s e aa' s' h hwf => ?_, fun R c l aa s e aa' s' h hwf => ?_, hL⟩
    · unfold ev at h
      split at h
      · -- skip
        cases h
        exact ⟨Mono.refl _, fun ρ T w a r n hr hp ha => wpIn_skip ⟨ρ, Post.refl hp, ha, trivial⟩⟩
      · cases h
        exact ⟨Mono.refl _, fun ρ T w a r n hr hp ha => wpIn_label ⟨ρ, Post.refl hp, ha, trivial⟩⟩
      · -- region
        rename_i id ops draw
        have hY := ysound (ihE true)
        cases hx : regOps P C (roundY (ev P C f true)) R ops.toList draw aa s with
        | no => rw [hx] at h; cases h
        | ok aa1 s1 =>
          rw [hx] at h
          cases h
          exact ⟨regOps_mono hC hY hwf hx rfl, fun ρ T w a r n hr hp ha => regOps_ok hm hC hY hr hx rfl hp ha (fun ρ' a' w' h1 h2 => ⟨ρ', h1, h2, trivial⟩)⟩
        | pan aa1 v s1 =>
          rw [hx] at h
          cases h
          exact ⟨regOps_mono hC hY hwf hx rfl, fun ρ T w a r n hr hp ha => regOps_ok hm hC hY hr hx rfl hp ha (fun ρ' a' w' v' h1 h2 h3 => ⟨ρ', h1, h2, v', rfl, h3⟩)⟩
      · -- seq
        rename_i x y
        split at h
        · rename_i aa1 s1 h1
          obtain ⟨m1, k1⟩ := ihE R _ _ _ _ _ _ h1 hwf
          obtain ⟨m2, k2⟩ := ihE R _ _ _ _ _ _ h (m1.wf hwf)
          refine ⟨m1.trans m2, fun ρ T w a r n hr hp ha => wpIn_seq (wpIn_mono (k1 ρ T w a r n hr (hp.first m2) ha) ?_)⟩
          rintro E1 a1 w1 ⟨ρ1, g1, g2, g3⟩
          cases E1 <;> try exact g3.elim
          exact wpIn_mono (k2 ρ1 _ w1 a1 r n hr (hp.next m1 m2 g1) g2) (fun E2 a2 w2 h2 => h2.after m1 m2 g1)
        · rename_i hne
          obtain ⟨m1, k1⟩ := ihE R _ _ _ _ _ _ h hwf
          refine ⟨m1, fun ρ T w a r n hr hp ha => wpIn_seq (wpIn_mono (k1 ρ T w a r n hr hp ha) ?_)⟩
          rintro E1 a1 w1 ⟨ρ1, g1, g2, g3⟩
          have hen : e ≠ .normal := fun he => hne aa' s' (by rw [h, he])
          cases E1 <;> first | exact absurd rfl (ex_norm g3 hen) | exact ⟨ρ1, g1, g2, g3⟩
      · -- cond
        rename_i c x y
        split at h
        · rename_i hc
          obtain ⟨m1, k1⟩ := ihE R _ _ _ _ _ _ h hwf
          refine ⟨m1, fun ρ T w a r n hr hp ha => ?_⟩
          have := ha.eval c
          rw [hc] at this
          generalize hcc : a.eval c = c' at this
          cases this
          exact wpIn_cond_true hcc (k1 ρ T w a r n hr hp ha)
        · rename_i hc
          obtain ⟨m1, k1⟩ := ihE R _ _ _ _ _ _ h hwf
          refine ⟨m1, fun ρ T w a r n hr hp ha => ?_⟩
          have := ha.eval c
          rw [hc] at this
          generalize hcc : a.eval c = c' at this
          cases this
          exact wpIn_cond_false hcc (k1 ρ T w a r n hr hp ha)
        · cases h
      · -- block
        rename_i id c
        split at h
        · rename_i j aa1 s1 h1
          cases h
          obtain ⟨m1, k1⟩ := ihE R _ _ _ _ _ _ h1 hwf
          refine ⟨m1, fun ρ T w a r n hr hp ha => wpIn_block (wpIn_mono (k1 ρ T w a r n hr hp ha) ?_)⟩
          rintro E1 a1 w1 ⟨ρ1, g1, g2, g3⟩
          cases E1 <;> try exact g3.elim
          have hj : j = _ := g3
          subst hj
          by_cases hid : j = id
          · simp only [Exit.inBlock, hid, if_true]
            exact ⟨ρ1, g1, g2, trivial⟩
          · simp only [Exit.inBlock, hid, if_false]
            exact ⟨ρ1, g1, g2, rfl⟩
        · rename_i hne
          obtain ⟨m1, k1⟩ := ihE R _ _ _ _ _ _ h hwf
          refine ⟨m1, fun ρ T w a r n hr hp ha => wpIn_block (wpIn_mono (k1 ρ T w a r n hr hp ha) ?_)⟩
          rintro E1 a1 w1 ⟨ρ1, g1, g2, g3⟩
          cases E1 <;> try exact ⟨ρ1, g1, g2, g3⟩
          exact absurd (by rw [h, ex_exit g3]) (hne _ aa' s')
      · -- loop
        rename_i c
        obtain ⟨m1, k1⟩ := hL R c aa s e aa' s' (by unfold ev; exact h) hwf
        exact ⟨m1, fun ρ T w a r n hr hp ha => wpIn_loop_rounds _ (k1 ρ T w a r n hr hp ha)⟩
      · cases h; exact ⟨Mono.refl _, fun ρ T w a r n hr hp ha => wpIn_exit ⟨ρ, Post.refl hp, ha, rfl⟩⟩
      · cases h; exact ⟨Mono.refl _, fun ρ T w a r n hr hp ha => wpIn_goto ⟨ρ, Post.refl hp, ha, rfl⟩⟩
      · cases h; exact ⟨Mono.refl _, fun ρ T w a r n hr hp ha => wpIn_ret ⟨ρ, Post.refl hp, ha, trivial⟩⟩
      · -- scope
        rename_i c
        split at h
        · rename_i l aa1 s1 h1
          obtain ⟨m1, k1⟩ := ihE R _ _ _ _ _ _ h1 hwf
          obtain ⟨m2, k2⟩ := ihJ R _ _ _ _ _ _ _ h (m1.wf hwf)
          refine ⟨m1.trans m2, fun ρ T w a r n hr hp ha => wpIn_scope_jumps (wpIn_mono (k1 ρ T w a r n hr (hp.first m2) ha) ?_)⟩
          rintro E1 a1 w1 ⟨ρ1, g1, g2, g3⟩
          cases E1 <;> try exact g3.elim
          have hl : l = _ := g3
          subst hl
          exact ⟨_, jumpsIn_mono (fun E2 a2 w2 h2 => h2.after m1 m2 g1) _ _ _ _ (k2 ρ1 _ w1 a1 r n hr (hp.next m1 m2 g1) g2)⟩
        · rename_i hne
          obtain ⟨m1, k1⟩ := ihE R _ _ _ _ _ _ h hwf
          refine ⟨m1, fun ρ T w a r n hr hp ha => wpIn_scope_jumps (wpIn_mono (k1 ρ T w a r n hr hp ha) ?_)⟩
          rintro E1 a1 w1 ⟨ρ1, g1, g2, g3⟩
          cases E1 <;> try exact ⟨ρ1, g1, g2, g3⟩
          exact absurd (by rw [h, ex_goto g3]) (hne _ aa' s')
      · -- range over a function
        rename_i g ps assign body
        split at h
        · cases h
        · rename_i hR
          have hRf : R = false := by simpa using hR
          subst hRf
          split at h
          · rename_i gf first cap hg
            split at h
            · rename_i v3 s3 hcall
              have mA : Mono s (s.new .defd) := Mono.new _ _
              have mB : Mono (s.new .defd) ((s.new .defd).new (.loop true none aa.sz aa.tmps ps.toList assign body s.n)) := Mono.new _ _
              have hwf2 := mB.wf (mA.wf hwf)
              obtain ⟨m3, k3⟩ := hC _ _ _ _ _ hcall hwf2
              -- what follows, whichever way
              have main : ∀ (rd : Bool) (p : Option Code) sz tm pl as bd d, s3.heap.get (s.n + 1) = some (.loop rd p sz tm pl as bd d) → loopState rd p ≠ .busy → Mono ((s3.put (s.n + 1) .dead).note (.all (s.n + 1))) s' → (∀ ρ T w a n, Pre ρ T ((s3.put (s.n + 1) .dead).note (.all (s.n + 1))) s' w → ActR ρ { aa with defs := .mark s.n :: aa.defs } a →
                    match p with
                    | none => EvPost ρ T ((s3.put (s.n + 1) .dead).note (.all (s.n + 1))) w e aa' s' .normal a w
                    | some c => c.wpIn (FW none) n P (EvPost ρ T ((s3.put (s.n + 1) .dead).note (.all (s.n + 1))) w e aa' s') a w) →
                  Mono s s' ∧ ∀ ρ T w a r n, (false = false → r = none) → Pre ρ T s s' w → ActR ρ aa a → (Code.rangeFunc g ps assign body).wpIn (FW r) n P (EvPost ρ T s w e aa' s') a w := by
                intro rd p sz tm pl as bd d hb3 hst m5 k5
                have m4 : Mono s3 ((s3.put (s.n + 1) .dead).note (.all (s.n + 1))) := Mono.put_note _ _ _ ⟨_, hb3, trivial⟩
                have mC := m3.trans (m4.trans m5)
                refine ⟨mA.trans (mB.trans mC), fun ρ T w a r n hr hp ha => ?_⟩
                have hrn := hr rfl
                subst hrn
                refine wpIn_rangeFunc (fun fn _ => ?_)
                have hge := ha.eval g
                rw [hg] at hge
                generalize hgg : a.eval g = g' at hge
                cases hge with
                | func _ _ _ k' l' h1 h2 =>
                have hn1 : s.n < s'.n := Nat.lt_of_lt_of_le (Nat.lt_succ_self _) (mB.trans mC).n
                have post1 : Post ρ T s w (ρ.add s.n ⟨w.heap.size, 0, 0⟩) (s.new .defd) (w.alloc (.deferred (some []))) :=
                  Post.made hp.good hp.wf (hp.fresh _ (Nat.le_refl _) hn1) hp.tn (Add.alloc _ _) rfl ⟨_, Env.add_self _ _, World.alloc_heap_new _ _⟩
                have hp1 := hp.next mA (mB.trans mC) post1
                have hn2 : s.n + 1 < s'.n := Nat.lt_of_lt_of_le (Nat.lt_succ_self _) mC.n
                have post2 : Post (ρ.add s.n ⟨w.heap.size, 0, 0⟩) (Tn T s.n (s.new .defd).n) (s.new .defd) (w.alloc (.deferred (some []))) ((ρ.add s.n ⟨w.heap.size, 0, 0⟩).add (s.n + 1) ⟨w.heap.size + 1, 0, 0⟩) ((s.new .defd).new (.loop true none aa.sz aa.tmps ps.toList assign body s.n))
                    ((w.alloc (.deferred (some []))).alloc (.loop { state := .ready, pending := none, fn, tmps := a.tmps, params := ps, assign, body, defers := w.heap.size })) := by
                  refine Post.made hp1.good hp1.wf (hp1.fresh _ (Nat.le_refl _) hn2) hp1.tn (Add.alloc _ _) (by simp) ?_
                  refine ⟨_, fn, a.tmps, ⟨w.heap.size, 0, 0⟩, Env.add_self _ _, ?_, ?_, ha.size, fun t => (ha.get t).mono ?_⟩
                  · rw [Env.add_ne _ (by show s.n ≠ s.n + 1; omega)]
                    exact Env.add_self _ _
                  · have := World.alloc_heap_new (w.alloc (.deferred (some []))) (.loop { state := .ready, pending := none, fn, tmps := a.tmps, params := ps, assign, body, defers := w.heap.size })
                    simpa [loopState] using this
                  · exact Env.le_trans post1.ext (Env.add_le (hp1.fresh _ (Nat.le_refl _) hn2))
                have hp2 := hp1.next mB mC post2
                have hle2 : ρ.le ((ρ.add s.n ⟨w.heap.size, 0, 0⟩).add (s.n + 1) ⟨w.heap.size + 1, 0, 0⟩) := Env.le_trans post1.ext post2.ext
                have hall : VRL ((ρ.add s.n ⟨w.heap.size, 0, 0⟩).add (s.n + 1) ⟨w.heap.size + 1, 0, 0⟩) (first ++ .yield (s.n + 1) :: cap) (k' ++ #[Value.func (.yield (w.heap.size + 1)) #[] #[]] ++ l').toList := by
                  simp only [Array.toList_append, List.append_assoc, List.singleton_append]
                  exact (h1.mono hle2).append (.cons _ _ _ _ (.yield _ ⟨w.heap.size + 1, 0, 0⟩ (Env.add_self _ _)) (h2.mono hle2))
                obtain ⟨hent, hcalls⟩ := k3 _ _ _ _ (hp2.first (m4.trans m5)) hall
                refine ⟨w.heap.size + 1, [{ target := .collected w.heap.size, args := #[] }], _, { target := .fn (.func gf) l', args := k' ++ #[.func (.yield (w.heap.size + 1)) #[] #[]] }, _, gf, _, _, run_enterLoop_outer fn a.tmps ps assign body, ?_, fun _ _ => trivial, hent _, fun hh => by simp [FW, Fence.wide] at hh, (hcalls (n - 1)).mono ?_⟩
                · show (Deferred.ofValue (a.eval g) (#[Operand.const (.func (.yield (w.heap.size + 1)) #[] #[])].map a.eval)).run P _ = _
                  rw [hgg]
                  simp [Deferred.ofValue, Sem.run_pure]
                  rfl
                · rintro E3 w3 ⟨ρ3, hpost3, hres⟩
                  cases E3 with
                  | panicked ch => exact hres.elim
                  | outgrown => exact hres.elim
                  | returned v' =>
                  have hp3 := hp2.next m3 (m4.trans m5) hpost3
                  have hr3 : ρ3 (s.n + 1) = some ⟨w.heap.size + 1, 0, 0⟩ := hpost3.ext _ _ (Env.add_self _ _)
                  have hT3 : ∃ i, Tn (Tn (Tn T s.n (s.new .defd).n) (s.new .defd).n ((s.new .defd).new (.loop true none aa.sz aa.tmps ps.toList assign body s.n)).n) ((s.new .defd).new (.loop true none aa.sz aa.tmps ps.toList assign body s.n)).n s3.n (s.n + 1) i :=
                    ⟨0, .inl (.inr ⟨Nat.le_refl _, Nat.lt_succ_self _⟩)⟩
                  obtain ⟨fn3, tm3, q3, f1, f2, f3, f4⟩ := loop_at hp3.good hT3 hb3 hr3
                  have post4 : Post ρ3 _ s3 w3 ρ3 ((s3.put (s.n + 1) .dead).note (.all (s.n + 1))) (w3.putObj (w.heap.size + 1) _) := Post.alt (x' := .dead) (r := ⟨w.heap.size + 1, 0, 0⟩) hp3.good hb3 trivial hT3 hr3 (alt_put w3 (.loop { state := .exhausted, pending := p, fn := fn3, tmps := tm3, params := pl.toArray, assign := as, body := bd, defers := q3.blk }) f2) trivial
                  have hp4 := hp3.next m4 m5 post4
                  have hact : ActR ρ3 { aa with defs := .mark s.n :: aa.defs } { a with defers := [{ target := .collected w.heap.size, args := #[] }] ++ a.defers } := by
                    have hle3 := Env.le_trans hle2 hpost3.ext
                    refine ⟨ha.size, fun t => (ha.get t).mono hle3, .cons _ _ _ _ (.mark _ ⟨w.heap.size, 0, 0⟩ ?_) (ha.defs.mono hle3)⟩
                    refine hpost3.ext _ _ (post2.ext _ _ (Env.add_self _ _))
                  have hfin := k5 _ _ _ _ n hp4 hact
                  refine ⟨p, _, run_endLoop f2 hst, ?_⟩
                  have aft : ∀ E a' w', EvPost _ _ _ _ e aa' s' E a' w' → EvPost ρ T s w e aa' s' E a' w' := fun E a' w' h => EvPost.after mA (mB.trans mC) post1 (EvPost.after mB mC post2 (EvPost.after m3 (m4.trans m5) hpost3 (EvPost.after m4 m5 post4 h)))
                  cases p with
                  | none => exact aft _ _ _ hfin
                  | some c => exact wpIn_mono hfin aft
              split at h
              · rename_i rd sz tm pl as bd d hb3
                split at h
                · rename_i hrd
                  cases h
                  exact main _ _ _ _ _ _ _ _ hb3 (by rw [hrd]; simp [loopState]) (Mono.refl _) (fun ρ T w a n hp ha => ⟨ρ, Post.refl hp, ha, trivial⟩)
                · cases h
              · rename_i rd c sz tm pl as bd d hb3
                have hwf4 := (Mono.put_note s3 (s.n + 1) .dead ⟨_, hb3, trivial⟩).wf (m3.wf hwf2)
                obtain ⟨m5, k5⟩ := ihE false _ _ _ _ _ _ h hwf4
                exact main _ _ _ _ _ _ _ _ hb3 (by unfold loopState; cases rd <;> simp) m5 (fun ρ T w a n hp ha => k5 ρ T w a none n (fun _ => rfl) hp ha)
              · cases h
            · cases h
          · cases h
      · cases h
    · unfold jump at h
      split at h
      · rename_i rest hf
        split at h
        · rename_i l' aa1 s1 h1
          obtain ⟨m1, k1⟩ := ihE R _ _ _ _ _ _ h1 hwf
          obtain ⟨m2, k2⟩ := ihJ R _ _ _ _ _ _ _ h (m1.wf hwf)
          refine ⟨m1.trans m2, fun ρ T w a r n hr hp ha => ⟨rest, hf, wpIn_mono (k1 ρ T w a r n hr (hp.first m2) ha) ?_⟩⟩
          rintro E1 a1 w1 ⟨ρ1, g1, g2, g3⟩
          cases E1 <;> try exact g3.elim
          have hl : l' = _ := g3
          subst hl
          exact jumpsIn_mono (fun E2 a2 w2 h2 => h2.after m1 m2 g1) _ _ _ _ (k2 ρ1 _ w1 a1 r n hr (hp.next m1 m2 g1) g2)
        · rename_i hne
          obtain ⟨m1, k1⟩ := ihE R _ _ _ _ _ _ h hwf
          refine ⟨m1, fun ρ T w a r n hr hp ha => ⟨rest, hf, wpIn_mono (k1 ρ T w a r n hr hp ha) ?_⟩⟩
          rintro E1 a1 w1 ⟨ρ1, g1, g2, g3⟩
          cases E1 <;> try exact ⟨ρ1, g1, g2, g3⟩
          exact absurd (by rw [h, ex_goto g3]) (hne _ aa' s')
      · cases h
end
end Go.Proofs.YtnodnpehjbhphaaGreatDoor.Rk
