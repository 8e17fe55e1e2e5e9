/- A round of a range over a function. Plain lemmas. -/
import Derived.Test.YtnodnpehjbhphaaGreatDoorRkE20
namespace Go.Proofs.YtnodnpehjbhphaaGreatDoor.Rk
open Go
set_option linter.unusedVariables false
section
variable {P : Program} {E : Ev}
/-- The record, changed at a round's end. -/
theorem round_end {ρ : Env} {T : Nat → Nat → Prop} {s2 : St} {w : World} {b : Nat} {ready : Bool} {p : Option Code} {sz : Nat} {tmps : Tr AV} {ps : List Tmp} {assign body : Code} {d : Nat} (hg : Good ρ T s2.heap.get w) (hT : ∃ i, T b i) (hb : s2.heap.get b = some (.loop ready p sz tmps ps assign body d)) {r : RB} (hr : ρ b = some r)
    (k : Bool) (j : Option Code) (hk : k = j.isNone) : ∃ v w', (Instr.endRound r.blk j).run P w = .ok v w' ∧ v = .bool k ∧ Post ρ T s2 w ρ ((s2.put b (.loop k j sz tmps ps assign body d)).note (.all b)) w' := by
  obtain ⟨fn, tmps', q, h1, h2, h3, h4⟩ := loop_at hg hT hb hr
  refine ⟨_, _, run_endRound j h2, by rw [hk], ?_⟩
  have := loop_alt (ready' := k) (p' := j) hg hT hb hr h1 h2 h3 h4
  have e : loopState k j = if j.isNone then LoopState.ready else .done := by
    subst hk
    unfold loopState
    cases j <;> rfl
  rw [e] at this
  exact this
theorem ysound (hE : EvS P E true) : YSound P (roundY E) := by
  intro b args s res s' h hwf
  unfold roundY at h
  split at h
  · rename_i sz tmps ps assign body d hb
    split at h
    · rename_i hlen
      split at h
      · rename_i aa1 s1 hev1
        split at h
        · rename_i sz1 tmps1 ps1 assign1 body1 d1 hb1
          split at h
          · rename_i e2 aa2 s2 hev2
            split at h
            · rename_i rd p2 sz2 tmps2 ps2 assign2 body2 d2 rr j hb2 hre
              cases h
              obtain ⟨m1, k1⟩ := hE _ _ _ _ _ _ hev1 hwf
              have hwf1 := m1.wf hwf
              have m1' : Mono s1 ((s1.put b (.loop false none sz1 tmps1 ps1 assign1 body1 d1)).note (.all b)) := Mono.put_note _ _ _ ⟨_, hb1, trivial⟩
              obtain ⟨m2, k2⟩ := hE _ _ _ _ _ _ hev2 (m1'.wf hwf1)
              have m2' : Mono s2 ((s2.put b (.loop rr j sz2 tmps2 ps2 assign2 body2 d2)).note (.all b)) := Mono.put_note _ _ _ ⟨_, hb2, trivial⟩
              have m12 := m1'.trans (m2.trans m2')
              refine ⟨m1.trans m12, fun ρ T w vs hp hargs r hr => ?_⟩
              have hbn := lt_wf hwf hb
              have hTb : ∃ i, T b i := ⟨0, hp.cov (.all b) (List.mem_cons_self ..) hbn b 0 rfl⟩
              obtain ⟨fn, tmps', q, g1, g2, g3, g4⟩ := loop_at hp.good hTb hb hr
              have hsz : vs.size = ps.toArray.size := by rw [hargs.size, hlen]; simp
              refine ⟨_, _, _, _, run_yield g2 hsz, fun rr' n => ?_⟩
              refine roundIn_of_wpIn (F := FW rr') trivial ?_
              show assign.wpIn (FW (some r.blk)) n P _ _ w
              have ha0 : ActR ρ (setPs ps args ⟨sz, tmps, []⟩) { tmps := (ps.toArray.zip vs).foldl (fun tmps (t, a) => tmps.setIfInBounds t a) tmps', defers := [] } := by
                have := setPs_ok (ρ := ρ) ps args vs.toList ⟨sz, tmps, []⟩ tmps' hargs hlen ⟨g3, fun t => g4 t, .nil⟩
                rw [← Array.foldl_toList, Array.toList_zip]
                exact this
              refine wpIn_mono (k1 ρ T w _ (some r.blk) n (fun h => by cases h) (hp.first m12) ha0) ?_
              rintro E1 a1 w1 ⟨ρ1, hpost1, hact1, hex1⟩
              have hp1 := hp.next m1 m12 hpost1
              cases E1 <;> try exact hex1.elim
              have hr1 : ρ1 b = some r := hpost1.ext _ _ hr
              have hT1 : ∃ i, Tn T s.n s1.n b i := let ⟨i, hi⟩ := hTb; ⟨i, .inl hi⟩
              obtain ⟨fn1, tm1, q1, f1, f2, f3, f4⟩ := loop_at hp1.good hT1 hb1 hr1
              refine ⟨_, run_beginRound f2 rfl, ?_⟩
              have hpost1' : Post ρ1 (Tn T s.n s1.n) s1 w1 ρ1 ((s1.put b (.loop false none sz1 tmps1 ps1 assign1 body1 d1)).note (.all b)) (w1.putObj r.blk (.loop { state := .busy, pending := none, fn := fn1, tmps := tm1, params := ps1.toArray, assign := assign1, body := body1, defers := q1.blk })) :=
                loop_alt (ready' := false) (p' := none) hp1.good hT1 hb1 hr1 f1 f2 f3 f4
              have hp1' := hp1.next m1' (m2.trans m2') hpost1'
              have hact1' : ActR ρ1 aa1 a1 := hact1
              show body.wpIn (FW (some r.blk)) n P _ a1 _
              refine wpIn_mono (k2 ρ1 _ _ _ (some r.blk) n (fun h => by cases h) (hp1'.first m2') hact1') ?_
              rintro E2 a2 w2 ⟨ρ2, hpost2, hact2, hex2⟩
              have hp2 := hp1'.next m2 m2' hpost2
              have hr2 : ρ2 b = some r := hpost2.ext _ _ hr1
              have fin : ∀ (jj : Option Code), jj = j → rr = jj.isNone → ∃ v w', (Instr.endRound r.blk jj).run P w2 = .ok v w' ∧ ∃ ρ', Post ρ T s w ρ' ((s2.put b (.loop rr j sz2 tmps2 ps2 assign2 body2 d2)).note (.all b)) w' ∧ ResR ρ' (.ret (.bool rr)) (.returned v) := by
                intro jj hjj hrr
                subst hjj
                obtain ⟨v, w3, h1, h2, h3⟩ := round_end (P := P) hp2.good (by
                  obtain ⟨i, hi⟩ := hT1
                  exact ⟨i, .inl (.inl hi)⟩) hb2 hr2 rr jj hrr
                refine ⟨v, w3, h1, ρ2, Post.trans m1 m12 hpost1 (Post.trans m1' (m2.trans m2') hpost1' (Post.trans m2 m2' hpost2 h3)), ?_⟩
                rw [h2]
                exact .bool _
              cases e2 <;> cases E2 <;> simp only [ExR] at hex2 <;> simp only [roundEnd, Option.some.injEq, Prod.mk.injEq, reduceCtorEq] at hre
              · exact fin none hre.2 hre.1.symm
              · subst hex2
                exact fin _ hre.2 hre.1.symm
              · subst hex2
                exact fin _ hre.2 hre.1.symm
              · exact fin _ hre.2 hre.1.symm
            · cases h
          · cases h
        · cases h
      · cases h
    · cases h
  · cases h
end
end Go.Proofs.YtnodnpehjbhphaaGreatDoor.Rk
