/- A step that was reckoned in some blocks alone leaves the others as they were. Plain lemmas. -/
import Derived.Test.YtnodnpehjbhphaaGreatDoorRkE14
namespace Go.Proofs.YtnodnpehjbhphaaGreatDoor.Rk
open Go
set_option linter.unusedVariables false
section
variable {ρ ρ' : Env} {T1 T2 : Nat → Nat → Prop} {p q : St} {w w' : World} {h h' : Nat → Option ABlk}
theorem at_wr {b i j n : Nat} (h1 : j ≤ i) (h2 : i < j + n) : (LE.wr b j n).at b i := ⟨rfl, h1, h2⟩
/-- The step, looked at from all blocks that are known. -/
theorem good_frame (hG : Good ρ T1 h w) (hp : Pre ρ T2 p q w) (hpost : Post ρ T2 p w ρ' q w') (hm : Mono p q) (hlog : p.log = [])
    (hsub : ∀ b i, T2 b i → T1 b i) (hlive : ∀ b, (∃ i, T2 b i) → ∃ z, h b = some z ∧ live z) (hnew : ∀ b i, p.n ≤ b → b < q.n → ¬ T1 b i)
    (hcov : ∀ e ∈ q.log, e.blk < p.n → ∀ i, e.at e.blk i → T2 e.blk i)
    (ha : ∀ b, p.n ≤ b → b < q.n → h' b = q.heap.get b)
    (hb : ∀ b y, (∃ i, T1 b i) → (∀ i, ¬ T2 b i) → h' b = some y → live y → h b = some y)
    (hc : ∀ b y', (∃ i, T2 b i) → h' b = some y' → live y' → ∃ y, q.heap.get b = some y ∧ live y ∧ (match y with
      | .cells t cs' => ∃ cs, y' = .cells t cs ∧ cs.length = cs'.length ∧ (∀ i, T2 b i → cs[i]? = cs'[i]?) ∧ ((∀ i, T2 b i) ∨ ∃ cs0, h b = some (.cells t cs0) ∧ ∀ i, ¬ T2 b i → cs[i]? = cs0[i]?)
      | y => y' = y)) : Good ρ' (Tn T1 p.n q.n) h' w' := by
  -- what is written is looked into
  have hwr : ∀ e ∈ q.log, ∀ r, ρ e.blk = some r → ∀ i, e.at e.blk i → T2 e.blk i := by
    intro e he r hr i hi
    have h1 : e.blk < q.n := hm.lb hp.wf (by rw [hlog]; simp) e he
    by_cases h2 : e.blk < p.n
    · exact hcov e he h2 i hi
    · rw [hp.fresh e.blk (by omega) h1] at hr; cases hr
  have hinj : ∀ b r i, T2 b i → ∀ b' r' y', ρ b = some r → ρ b' = some r' → h b' = some y' → live y' → (∃ i, T1 b' i) → r.blk = r'.blk → b = b' := by
    intro b r i hi b' r' y' hr hr' hy' hl' ht' e
    obtain ⟨z, hz, hzl⟩ := hlive b ⟨i, hi⟩
    exact hG.inj b b' r r' z y' hz hy' hzl hl' ⟨i, hsub b i hi⟩ ht' hr hr' e
  have hquiet : ∀ b r y, ρ b = some r → h b = some y → live y → (∃ i, T1 b i) → (∀ i, ¬ T2 b i) → w'.heap[r.blk]? = w.heap[r.blk]? := by
    intro b r y hr hy hl hT hn
    refine hpost.unch.block r.blk (hG.old b r hr) (fun o hw => ?_)
    obtain ⟨e, he, r', h1, h2, h3⟩ := hw
    have hi : ∃ i, e.at e.blk i := by
      cases e with
      | rd => exact h3.elim
      | wr c j n => exact ⟨j, rfl, Nat.le_refl _, by omega⟩
      | all c => exact ⟨0, rfl⟩
    obtain ⟨i, hi⟩ := hi
    have ht := hwr e he r' h1 i hi
    have := hinj e.blk r' i ht b r y h1 hr hy hl hT h2
    exact hn i (this ▸ ht)
  have told : ∀ b, ∀ i, Tn T1 p.n q.n b i → T1 b i ∨ p.n ≤ b ∧ b < q.n := fun b i h => h
  refine ⟨fun b y hy hT => ?_, fun b b' r r' y y' hy hy' hl hl' ht ht' hr hr' e => ?_, hpost.good.old⟩
  · by_cases hl : live y
    · by_cases hmade : p.n ≤ b ∧ b < q.n
      · rw [ha b hmade.1 hmade.2] at hy
        exact (hpost.good.sat b y hy ⟨0, .inr hmade⟩).mono (Env.le_refl _) (fun i _ => .inr hmade) (fun _ _ => rfl)
      · have hT1 : ∃ i, T1 b i := by
          obtain ⟨i, hi⟩ := hT
          rcases hi with hi | hi
          · exact ⟨i, hi⟩
          · exact absurd hi hmade
        have hTT : ∀ i, Tn T1 p.n q.n b i → T1 b i := fun i hi => hi.elim id (fun hi => absurd hi hmade)
        by_cases ht2 : ∃ i, T2 b i
        · obtain ⟨y0, hq, hyl, hrel⟩ := hc b y ht2 hy hl
          have hbr := hpost.good.sat b y0 hq (by obtain ⟨i, hi⟩ := ht2; exact ⟨i, .inl hi⟩)
          cases y0 with
          | cells t cs' =>
            obtain ⟨cs, rfl, hlen, hin, hout⟩ := hrel
            obtain ⟨r, c, fr, g1, g2, g3, g4, g5, g6⟩ := hbr
            refine ⟨r, c, fr, g1, g2, g3, by rw [hlen]; exact g4, g5, fun i a hai hTi => ?_⟩
            by_cases hti : T2 b i
            · rw [hin i hti] at hai
              exact g6 i a hai (.inl hti)
            · rcases hout with hout | ⟨cs0, hh0, hout⟩
              · exact absurd (hout i) hti
              · rw [hout i hti] at hai
                obtain ⟨r0, c0, fr0, k1, k2, k3, k4, k5, k6⟩ := hG.sat b _ hh0 hT1
                have hr0 : r0 = r := Option.some.inj ((hpost.ext b r0 k1).symm.trans g1)
                subst hr0
                obtain ⟨v, hv, hR⟩ := k6 i a hai (hTT i hTi)
                have hbl : ∀ e ∈ q.log, ∀ r', ρ e.blk = some r' → r'.blk = r0.blk → ∀ j, e.at e.blk j → e.blk = b := fun e he r' hr' hbk j hj => hinj e.blk r' j (hwr e he r' hr' j hj) b r0 _ hr' k1 hh0 trivial hT1 hbk
                obtain ⟨c1, m1, m2, m3⟩ := hpost.unch.cells r0.blk c0 (t / 2) fr0 k2 (fun ⟨b1, r1, n1, n2, n3⟩ => by
                  have := hbl _ n1 r1 n2 n3 i rfl
                  have h7 := hwr _ n1 r1 n2 i rfl
                  simp only [LE.blk] at this h7
                  rw [this] at h7
                  exact hti h7)
                rw [m1] at g2
                simp only [Option.some.injEq, Obj.cells.injEq] at g2
                obtain ⟨g2, _, _⟩ := g2
                subst g2
                refine ⟨v, ?_, hR.mono hpost.ext⟩
                rw [m3 _ (fun ⟨e, he, r', n1, n2, n3⟩ => by
                  cases e with
                  | rd => exact n3.elim
                  | wr b1 j n =>
                    have h8 : (LE.wr b1 j n).at b1 j := ⟨rfl, Nat.le_refl _, by omega⟩
                    have hbb := hbl _ he r' n1 n2 j h8
                    simp only [LE.blk] at hbb n1
                    subst hbb
                    have : r' = r0 := Option.some.inj (n1.symm.trans k1)
                    subst this
                    exact hti (hwr _ he r' n1 i ⟨rfl, by omega, by omega⟩)
                  | all b1 =>
                    have hbb := hbl _ he r' n1 n2 i rfl
                    simp only [LE.blk] at hbb n1
                    subst hbb
                    exact hti (hwr _ he r' n1 i rfl))]
                exact hv
          | map es clock => subst hrel; exact hbr
          | miter m a1 a2 a3 => subst hrel; exact hbr
          | defd => subst hrel; exact hbr
          | loop a1 a2 a3 a4 a5 a6 a7 a8 => subst hrel; exact hbr
          | dead => exact hyl.elim
        · have hn2 : ∀ i, ¬ T2 b i := fun i hi => ht2 ⟨i, hi⟩
          have hy0 := hb b y hT1 hn2 hy hl
          exact (hG.sat b y hy0 hT1).mono hpost.ext hTT (fun r hr => hquiet b r y hr hy0 hl hT1 hn2)
    · cases y <;> first | exact trivial | exact absurd trivial hl
  · -- no two in one place
    have old_ : ∀ b y r, h' b = some y → live y → (∃ i, Tn T1 p.n q.n b i) → ¬ (p.n ≤ b ∧ b < q.n) → ρ' b = some r → (∃ i, T1 b i) ∧ (∃ z, h b = some z ∧ live z) ∧ ρ b = some r := by
      intro b y r hy hl ht hnm hr
      have hT1 : ∃ i, T1 b i := by
        obtain ⟨i, hi⟩ := ht
        rcases hi with hi | hi
        · exact ⟨i, hi⟩
        · exact absurd hi hnm
      have hz : ∃ z, h b = some z ∧ live z := by
        by_cases ht2 : ∃ i, T2 b i
        · exact hlive b ht2
        · exact ⟨y, hb b y hT1 (fun i hi => ht2 ⟨i, hi⟩) hy hl, hl⟩
      obtain ⟨z, hz1, hz2⟩ := hz
      obtain ⟨r0, o0, hr0, _⟩ := (hG.sat b z hz1 hT1).where_ hz2
      have : r0 = r := Option.some.inj ((hpost.ext _ _ hr0).symm.trans hr)
      subst this
      exact ⟨hT1, ⟨z, hz1, hz2⟩, hr0⟩
    have mix : ∀ b y r b' y' r', h' b = some y → live y → (∃ i, Tn T1 p.n q.n b i) → ¬ (p.n ≤ b ∧ b < q.n) → ρ' b = some r → h' b' = some y' → live y' → (p.n ≤ b' ∧ b' < q.n) → ρ' b' = some r' → r.blk = r'.blk → b = b' := by
      intro b y r b' y' r' hy hl ht hnm hr hy' hl' hm' hr' e
      obtain ⟨hT1, ⟨z, hz1, hz2⟩, hr0⟩ := old_ b y r hy hl ht hnm hr
      have hno : ρ b' = none := hp.fresh b' hm'.1 hm'.2
      have hlt := hG.old b r hr0
      obtain ⟨b1, r1, n1, n2, n3⟩ := hpost.fr b' r' hno hr' (by omega)
      have ht2 := hwr _ n1 r1 n2 0 rfl
      have hbb := hinj b1 r1 0 ht2 b r z n2 hr0 hz1 hz2 hT1 (by omega)
      subst hbb
      obtain ⟨y0, hq, hyl, _⟩ := hc b1 y ⟨0, ht2⟩ hy hl
      rw [ha b' hm'.1 hm'.2] at hy'
      exact hpost.good.inj b1 b' r r' y0 y' hq hy' hyl hl' ⟨0, .inl ht2⟩ ⟨0, .inr hm'⟩ hr hr' e
    by_cases hmb : p.n ≤ b ∧ b < q.n
    · by_cases hmb' : p.n ≤ b' ∧ b' < q.n
      · rw [ha b hmb.1 hmb.2] at hy
        rw [ha b' hmb'.1 hmb'.2] at hy'
        exact hpost.good.inj b b' r r' y y' hy hy' hl hl' ⟨0, .inr hmb⟩ ⟨0, .inr hmb'⟩ hr hr' e
      · exact (mix b' y' r' b y r hy' hl' ht' hmb' hr' hy hl hmb hr e.symm).symm
    · by_cases hmb' : p.n ≤ b' ∧ b' < q.n
      · exact mix b y r b' y' r' hy hl ht hmb hr hy' hl' hmb' hr' e
      · obtain ⟨hT1, ⟨z, hz1, hz2⟩, hr0⟩ := old_ b y r hy hl ht hmb hr
        obtain ⟨hT1', ⟨z', hz1', hz2'⟩, hr0'⟩ := old_ b' y' r' hy' hl' ht' hmb' hr'
        exact hG.inj b b' r r' z z' hz1 hz1' hz2 hz2' hT1 hT1' hr0 hr0' e
end
end Go.Proofs.YtnodnpehjbhphaaGreatDoor.Rk
