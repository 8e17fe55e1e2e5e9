/- What the reckoner's looks into blocks, and its changes of them, say of the model's. Plain lemmas. -/
import Derived.Test.YtnodnpehjbhphaaGreatDoorRkE4
namespace Go.Proofs.YtnodnpehjbhphaaGreatDoor.Rk
open Go
set_option linter.unusedVariables false
theorem RB.at_add (r : RB) (off j : Nat) : (r.at off).add j = r.at (off + j) := by
  unfold RB.at Addr.add
  split
  · rename_i h; subst h; rfl
  · simp [Nat.add_assoc]
theorem cell_in {w : World} {B o : Nat} {c : Array Value} {t : TypeId} {fr : Nat × Nat} (h : w.heap[B]? = some (.cells c t fr)) : w.cell? ⟨B, o, none⟩ = c[o]? := by
  simp [World.cell?, h]
theorem takeN_len : ∀ {n : Nat} {l r : List AV}, takeN n l = some r → r = l.take n ∧ n ≤ l.length
  | 0, l, r, h => by simp [takeN] at h; subst h; simp
  | n + 1, x :: l, r, h => by
    unfold takeN at h
    split at h
    · rename_i r' hr
      cases h
      obtain ⟨h1, h2⟩ := takeN_len hr
      subst h1
      simpa using h2
    · cases h
  | n + 1, [], r, h => by simp [takeN] at h
theorem cutL_ok {cs r : List AV} {off n : Nat} (h : cutL cs off n = some r) : r = (cs.drop off).take n ∧ (n = 0 ∨ off + n ≤ cs.length) := by
  obtain ⟨h1, h2⟩ := takeN_len h
  refine ⟨h1, ?_⟩
  rw [List.length_drop] at h2
  omega
theorem setL_ok : ∀ {cs : List AV} {off : Nat} {vs r : List AV}, setL cs off vs = some r → r.length = cs.length ∧ (∀ i, r[i]? = if off ≤ i ∧ i < off + vs.length then vs[i - off]? else cs[i]?) ∧ (vs = [] ∨ off + vs.length ≤ cs.length)
  | cs, off, [], r, h => by
    simp [setL] at h
    subst h
    exact ⟨rfl, fun i => by rw [if_neg (by simp only [List.length_nil]; omega)], .inl rfl⟩
  | [], off, v :: vs, r, h => by cases off <;> simp [setL] at h
  | c :: cs, 0, v :: vs, r, h => by
    unfold setL at h
    split at h
    · rename_i r' hr
      cases h
      obtain ⟨h1, h2, h3⟩ := setL_ok hr
      have h4 : vs.length ≤ cs.length := by
        rcases h3 with h3 | h3
        · simp [h3]
        · omega
      refine ⟨by simp [h1], fun i => ?_, .inr (by simp; omega)⟩
      cases i with
      | zero => simp
      | succ i =>
        rw [List.getElem?_cons_succ, h2]
        by_cases hi : i < vs.length
        · rw [if_pos (by omega), if_pos (by simp; omega)]; simp
        · rw [if_neg (by omega), if_neg (by simp; omega)]; simp
    · cases h
  | c :: cs, off + 1, v :: vs, r, h => by
    unfold setL at h
    split at h
    · rename_i r' hr
      cases h
      obtain ⟨h1, h2, h3⟩ := setL_ok hr
      have h4 := h3.resolve_left (by simp)
      refine ⟨by simp [h1], fun i => ?_, .inr (by simp at h4 ⊢; omega)⟩
      cases i with
      | zero => simp
      | succ i =>
        rw [List.getElem?_cons_succ, h2]
        by_cases hi : off ≤ i ∧ i < off + (v :: vs).length
        · rw [if_pos hi, if_pos (by omega)]; congr 1; omega
        · rw [if_neg hi, if_neg (by omega)]; simp
    · cases h
section
variable {P : Program} {ρ : Env} {T : Nat → Nat → Prop} {s s' : St} {w w' : World}
theorem lt_n {b : Nat} {x : ABlk} (hw : WfS s) (h : s.heap.get b = some x) : b < s.n := by
  rcases Nat.lt_or_ge b s.n with h1 | h1
  · exact h1
  · rw [hw b h1] at h; cases h
theorem rd_mono {b off n : Nat} {cs : List AV} (h : rdCells s b off n = some (cs, s')) : s' = s.note (.rd b off n) ∧ Mono s s' := by
  unfold rdCells at h
  split at h
  · rename_i hb
    split at h
    · simp only [Option.some.injEq, Prod.mk.injEq] at h
      obtain ⟨_, rfl⟩ := h
      exact ⟨rfl, Mono.note _ _ ⟨_, hb, trivial⟩⟩
    · cases h
  · cases h
/-- Cells read. -/
theorem rd_ok {b off n : Nat} {cs : List AV} {r : RB} (h : rdCells s b off n = some (cs, s')) (hp : Pre ρ T s s' w) (hr : ρ b = some r) :
    ∃ vs : List Value, vs.length = n ∧ VRL ρ cs vs ∧ ∀ j v, vs[j]? = some v → w.cell? ((r.at off).add j) = some v := by
  obtain ⟨he, _⟩ := rd_mono h
  unfold rdCells at h
  split at h
  · rename_i t cs0 hb
    split at h
    · rename_i l hl
      simp only [Option.some.injEq, Prod.mk.injEq] at h
      obtain ⟨rfl, rfl⟩ := h
      obtain ⟨h1, h2⟩ := cutL_ok hl
      by_cases hn : n = 0
      · subst hn
        exact ⟨[], rfl, by rw [h1]; exact .nil, fun j v hv => by simp at hv⟩
      · have h2 : off + n ≤ cs0.length := h2.resolve_left hn
        have hT : ∀ i, off ≤ i → i < off + n → T b i := fun i h3 h4 => hp.cov (.rd b off n) (by rw [he]; exact List.mem_cons_self ..) (lt_n hp.wf hb) b i ⟨rfl, h3, h4⟩
        obtain ⟨r0, c, fr, g1, g2, g3, g4, g5, g6⟩ := hp.good.sat b _ hb ⟨off, hT off (Nat.le_refl _) (by omega)⟩
        replace g4 := g4.1
        have : r0 = r := Option.some.inj (g1.symm.trans hr)
        subst this
        refine ⟨(c.toList.drop (r0.base + off)).take n, by simp; omega, ?_, fun j v hv => ?_⟩
        · rw [h1]
          refine VRL.of_get (by simp; omega) (fun i a v ha hv => ?_)
          have hi : i < n := by
            have := (List.getElem?_eq_some_iff.1 ha).1
            simp at this; omega
          rw [List.getElem?_take_of_lt hi, List.getElem?_drop] at ha hv
          obtain ⟨u, hu, hR⟩ := g6 (off + i) a ha (hT _ (by omega) (by omega))
          rw [← Array.getElem?_toList, ← Nat.add_assoc] at hu
          rw [hu] at hv
          cases hv
          exact hR
        · have hj : j < n := by
            have := (List.getElem?_eq_some_iff.1 hv).1
            simp at this; omega
          rw [List.getElem?_take_of_lt hj, List.getElem?_drop, Array.getElem?_toList] at hv
          rw [RB.at_add]
          unfold RB.at
          rw [cell_in g2, ← hv, Nat.add_assoc]
    · cases h
  · cases h
theorem run_cells {a : Addr} {vs : List Value} (h : ∀ j v, vs[j]? = some v → w.cell? (a.add j) = some v) : (loadCells a vs.length).run P w = .ok vs.toArray w := run_loadCells_list (P := P) (w := w) a vs h
/-- What a reckoned step of the model's gives. -/
def OK1 (P : Program) (m : Sem Value) (ρ : Env) (T : Nat → Nat → Prop) (s : St) (w : World) (v : AV) (s' : St) : Prop :=
  ∃ ρ' w' v', m.run P w = .ok v' w' ∧ Post ρ T s w ρ' s' w' ∧ VR ρ' v v'
theorem OK1.pure {m : Sem Value} {v : AV} {v' : Value} (hp : Pre ρ T s s w) (h : m.run P w = .ok v' w) (hv : VR ρ v v') : OK1 P m ρ T s w v s :=
  ⟨ρ, w, v', h, Post.same hp.good rfl rfl (Still.refl w), hv⟩
theorem opLoad_mono {t : TypeId} {x v : AV} (h : opLoad P t x s = some (v, s')) : Mono s s' := by
  unfold opLoad at h
  split at h
  · split at h
    · rename_i hr
      cases h
      exact (rd_mono hr).2
    · cases h
  · split at h
    · rename_i hr
      cases h
      exact (rd_mono hr).2
    · cases h
  · cases h
theorem opLoad_ok {t : TypeId} {x v : AV} {x' : Value} (h : opLoad P t x s = some (v, s')) (hp : Pre ρ T s s' w) (hx : VR ρ x x') : OK1 P (Instr.loadAt t x') ρ T s w v s' := by
  unfold opLoad at h
  split at h
  · rename_i b off n ha hs
    split at h
    · rename_i cs s1 hr
      simp only [Option.some.injEq, Prod.mk.injEq] at h
      obtain ⟨rfl, rfl⟩ := h
      cases hx with
      | ptr b off r hb =>
        obtain ⟨vs, h1, h2, h3⟩ := rd_ok hr hp hb
        obtain ⟨e, _⟩ := rd_mono hr
        subst h1
        refine ⟨ρ, w, .agg vs.toArray, ?_, Post.same hp.good (by rw [e]; rfl) (by rw [e]; rfl) (Still.refl w), .agg _ _ (by simpa using h2)⟩
        simp [Instr.loadAt, Instr.sureAddr, loadVar, run_agg ha, run_szOf hs, run_cells h3]
    · cases h
  · rename_i b off ha
    split at h
    · rename_i v1 s1 hr
      simp only [Option.some.injEq, Prod.mk.injEq] at h
      obtain ⟨rfl, rfl⟩ := h
      cases hx with
      | ptr b off r hb =>
        obtain ⟨vs, h1, h2, h3⟩ := rd_ok hr hp hb
        obtain ⟨e, _⟩ := rd_mono hr
        match vs, h1 with
        | [u], _ =>
          cases h2 with
          | cons _ _ _ _ hv _ =>
            have hc := h3 0 u rfl
            rw [RB.at_add, Nat.add_zero] at hc
            refine ⟨ρ, w, u, ?_, Post.same hp.good (by rw [e]; rfl) (by rw [e]; rfl) (Still.refl w), hv⟩
            simp [Instr.loadAt, Instr.sureAddr, loadVar, run_agg ha, hc]
    · cases h
  · cases h
theorem heap_modify {w : World} {B : Nat} {c : Array Value} {t : TypeId} {fr : Nat × Nat} (h : w.heap[B]? = some (.cells c t fr)) (o : Nat) (v : Value) :
    (w.setCell ⟨B, o, none⟩ v).heap[B]? = some (.cells (c.setIfInBounds o v) t fr) ∧ (∀ B', B' ≠ B → (w.setCell ⟨B, o, none⟩ v).heap[B']? = w.heap[B']?) ∧ (w.setCell ⟨B, o, none⟩ v).heap.size = w.heap.size := by
  refine ⟨?_, fun B' hB => ?_, ?_⟩
  · simp [World.setCell, Array.getElem?_modify, h]
  · simp [World.setCell, Array.getElem?_modify, Ne.symm hB]
  · simp [World.setCell]
/-- Cells stored one behind the other. -/
theorem run_stores {B o : Nat} {t : TypeId} {fr : Nat × Nat} : ∀ (vs : List Value) (i : Nat) (c : Array Value) (w : World), w.heap[B]? = some (.cells c t fr) → (∀ v ∈ vs, v.oneCell' = true) → o + i + vs.length ≤ c.size →
    (∀ j, o + i ≤ j → j < c.size → (decide (fr.1 ≤ j) && decide (j < fr.2)) = false) → ∃ c' w', (storeCells ⟨B, o, none⟩ vs i).run P w = .ok () w' ∧ w'.heap[B]? = some (.cells c' t fr) ∧ c'.size = c.size ∧
      (∀ j, c'[j]? = if o + i ≤ j ∧ j < o + i + vs.length then vs[j - (o + i)]? else c[j]?) ∧ (∀ B', B' ≠ B → w'.heap[B']? = w.heap[B']?) ∧ w'.heap.size = w.heap.size ∧ w'.os = w.os ∧ w'.tape = w.tape ∧ w'.output = w.output
  | [], i, c, w, h, _, _, _ => ⟨c, w, rfl, h, rfl, fun j => by rw [if_neg (by simp only [List.length_nil]; omega)], fun _ _ => rfl, rfl, rfl, rfl, rfl⟩
  | v :: vs, i, c, w, h, ho, hs, hf => by
    simp only [List.length_cons] at hs
    have ha : (⟨B, o, none⟩ : Addr).add i = ⟨B, o + i, none⟩ := by
      unfold Addr.add; split
      · rename_i h0; subst h0; rfl
      · rfl
    have hc : ∃ u, w.cell? ⟨B, o + i, none⟩ = some u := by rw [cell_in h]; exact ⟨_, Array.getElem?_eq_getElem (by omega)⟩
    have hz : w.frozen? ⟨B, o + i, none⟩ = false := by
      simp only [World.frozen?, h]
      have := hf (o + i) (Nat.le_refl _) (by omega)
      simpa using this
    obtain ⟨u, hu⟩ := hc
    obtain ⟨m1, m2, m3⟩ := heap_modify h (o + i) v
    obtain ⟨c', w', g1, g2, g3, g4, g5, g6, g7, g8, g9⟩ := run_stores (B := B) (o := o) vs (i + 1) (c.setIfInBounds (o + i) v) (w.setCell ⟨B, o + i, none⟩ v) m1 (fun x hx => ho x (List.mem_cons_of_mem _ hx)) (by simp; omega) (fun j h1 h2 => hf j (by omega) (by simpa using h2))
    refine ⟨c', w', ?_, g2, by rw [g3]; simp, fun j => ?_, fun B' hB => (g5 B' hB).trans (m2 B' hB), g6.trans m3, g7, g8, g9⟩
    · unfold storeCells
      rw [Sem.run_bind, ha, run_store P w _ v .plain (ho v (List.mem_cons_self ..)), hu]
      simp only [hz, Bool.false_eq_true, if_false, Result.andThen_ok]
      exact g1
    · rw [g4]
      by_cases hj : o + (i + 1) ≤ j ∧ j < o + (i + 1) + vs.length
      · rw [if_pos hj, if_pos (by simp only [List.length_cons]; omega), show j - (o + i) = (j - (o + (i + 1))) + 1 by omega, List.getElem?_cons_succ]
      · rw [if_neg hj]
        by_cases hji : j = o + i
        · subst hji
          rw [if_pos (by simp only [List.length_cons]; omega), Nat.sub_self, List.getElem?_cons_zero, Array.getElem?_setIfInBounds, if_pos rfl, if_pos (by omega)]
        · rw [if_neg (by simp only [List.length_cons]; omega), Array.getElem?_setIfInBounds, if_neg (Ne.symm hji)]
theorem wr_mono {b off : Nat} {vs : List AV} (h : wrCells s b off vs = some s') : Mono s s' := by
  unfold wrCells at h
  split at h
  · rename_i hb
    split at h
    · split at h
      · rename_i hset
        cases h
        obtain ⟨h1, h2, _⟩ := setL_ok hset
        exact Mono.write _ _ hb h1 (fun i hi => by rw [h2, if_neg hi])
      · cases h
    · cases h
  · cases h
theorem VRL.ones {l : List AV} {vs : List Value} (h : VRL ρ l vs) (ho : l.all Rk.one = true) : ∀ v ∈ vs, v.oneCell' = true := by
  intro v hv
  obtain ⟨i, hi⟩ := List.getElem?_of_mem hv
  have hl := h.length
  have hil : i < l.length := by have := (List.getElem?_eq_some_iff.1 hi).1; omega
  obtain ⟨u, hu, hR⟩ := h.get i (List.getElem?_eq_getElem hil)
  rw [hi] at hu
  cases hu
  exact one_ok hR (List.all_eq_true.1 ho _ (List.getElem_mem hil))
/-- Cells written. -/
theorem wr_ok {b off : Nat} {vs : List AV} {vs' : List Value} {r : RB} (h : wrCells s b off vs = some s') (hp : Pre ρ T s s' w) (hr : ρ b = some r) (hv : VRL ρ vs vs') :
    ∃ w', (storeCells (r.at off) vs').run P w = .ok () w' ∧ Post ρ T s w ρ s' w' := by
  unfold wrCells at h
  split at h
  · rename_i t cs hb
    split at h
    · rename_i hone
      split at h
      · rename_i cs' hset
        cases h
        simp only [Bool.and_eq_true, Bool.not_eq_true', List.isEmpty_eq_false_iff] at hone
        obtain ⟨h1, h2, h3⟩ := setL_ok hset
        have h3 := h3.resolve_left hone.2
        have hlen := hv.length
        have hpos : 0 < vs.length := List.length_pos_iff.2 hone.2
        have hT : ∀ i, off ≤ i → i < off + vs.length → T b i := fun i h4 h5 => hp.cov (.wr b off vs.length) (List.mem_cons_self ..) (lt_n hp.wf hb) b i ⟨rfl, h4, h5⟩
        have hTb : ∃ i, T b i := ⟨off, hT off (Nat.le_refl _) (by omega)⟩
        obtain ⟨r0, c, fr, g1, g2, g3, g4, g5, g6⟩ := hp.good.sat b _ hb hTb
        replace g4 := g4.1
        have : r0 = r := Option.some.inj (g1.symm.trans hr)
        subst this
        obtain ⟨c', w', k1, k2, k3, k4, k5, k6, k7, k8, k9⟩ := run_stores (P := P) (o := r0.base + off) vs' 0 c w g2 (hv.ones hone.1) (by omega) (fun j h4 h5 => g5 j (by omega) h5)
        refine ⟨w', k1, Post.write (n := vs.length) hp.good hb hTb hr g2 ⟨k7, k8, k9, k6, k2, k5⟩ k3 (fun o ho => ?_) hpos h1 (fun i a ha hTi => ?_)⟩
        · rw [k4, if_neg (by omega)]
        · rw [h2] at ha
          rw [k4]
          by_cases hi : off ≤ i ∧ i < off + vs.length
          · rw [if_pos hi] at ha
            rw [if_pos (by omega), show r0.base + i - (r0.base + off + 0) = i - off by omega]
            exact hv.get _ ha
          · rw [if_neg hi] at ha
            rw [if_neg (by omega)]
            exact g6 i a ha hTi
      · cases h
    · cases h
  · cases h
theorem opStore_mono {t : TypeId} {x y : AV} (h : opStore P t x y s = some s') : Mono s s' := by
  unfold opStore at h
  split at h
  · split at h
    · split at h
      · cases h; exact Mono.refl _
      · exact wr_mono h
    · cases h
  · cases h
theorem opStore_ok {t : TypeId} {x y : AV} {x' y' : Value} (h : opStore P t x y s = some s') (hp : Pre ρ T s s' w) (hx : VR ρ x x') (hy : VR ρ y y') :
    ∃ w', (Instr.storeAt t x' y').run P w = .ok () w' ∧ Post ρ T s w ρ s' w' := by
  unfold opStore at h
  split at h
  · rename_i b off cs n hc hs
    split at h
    · rename_i hl
      cases hx with
      | ptr b off r hb =>
        have hv := cells_ok hy hc
        have hsz : y'.cells.size = n := by
          have := hv.length
          rw [Array.length_toList] at this
          omega
        split at h
        · rename_i hn0
          cases h
          refine ⟨w, ?_, Post.same hp.good rfl rfl (Still.refl w)⟩
          have he : y'.cells.toList = [] := List.length_eq_zero_iff.1 (by rw [Array.length_toList]; omega)
          simp [Instr.storeAt, Instr.sureAddr, storeVar, run_szOf hs, hsz, he, storeCells]
        · obtain ⟨w', h1, h2⟩ := wr_ok (P := P) h hp hb hv
          refine ⟨w', ?_, h2⟩
          simp [Instr.storeAt, Instr.sureAddr, storeVar, run_szOf hs, hsz, h1]
    · cases h
  · cases h
end
end Go.Proofs.YtnodnpehjbhphaaGreatDoor.Rk
