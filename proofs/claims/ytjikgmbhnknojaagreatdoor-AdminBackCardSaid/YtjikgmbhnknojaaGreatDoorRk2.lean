/- Parts, joined. -/
import Derived.Test.YtjikgmbhnknojaaGreatDoorRk1
import Derived.Laws.MakeOwn
import Derived.Laws.BytesArg
import Derived.Laws.Append
import Derived.Room.Entries
import Derived.MapKept
import Derived.Laws.Tables
/- What the reckoner's looks into blocks, and its changes of them, say of the model's. Plain lemmas. -/
namespace Go.Proofs.YtjikgmbhnknojaaGreatDoor.Rk
open Go
set_option linter.unusedVariables false
theorem RB.at_add (r : RB) (off j : Nat) : (r.at off).add j = r.at (off + j) := by
  unfold RB.at Addr.add
  split
  · rename_i h; subst h; rfl
  · simp [Nat.add_assoc]
theorem cell_in {w : World} {B o : Nat} {c : Array Value} {t : TypeId} {fr : Nat × Nat} (h : w.heap[B]? = some (.cells c t fr)) : w.cell? ⟨B, o, none⟩ = c[o]? := by
  simp [World.cell?, h]
theorem setL_ok : ∀ {cs : List AV} {off : Nat} {vs r : List AV}, setL cs off vs = some r → r.length = cs.length ∧ (∀ i, r[i]? = if off ≤ i ∧ i < off + vs.length then vs[i - off]? else cs[i]?) ∧ (vs = [] ∨ off + vs.length ≤ cs.length)
  | cs, off, [], r, h => by
    simp [setL] at h
    subst h
    exact ⟨rfl, fun i => by rw [if_neg (by simp only [List.length_nil]; omega)], .inl rfl⟩
  | [], off, v :: vs, r, h => by cases off <;> simp [setL] at h
  | c :: cs, 0, v :: vs, r, h => by
    unfold setL at h
    split at h
    · rename_i r' hr
      cases h
      obtain ⟨h1, h2, h3⟩ := setL_ok hr
      have h4 : vs.length ≤ cs.length := by
        rcases h3 with h3 | h3
        · simp [h3]
        · omega
      refine ⟨by simp [h1], fun i => ?_, .inr (by simp; omega)⟩
      cases i with
      | zero => simp
      | succ i =>
        rw [List.getElem?_cons_succ, h2]
        by_cases hi : i < vs.length
        · rw [if_pos (by omega), if_pos (by simp; omega)]; simp
        · rw [if_neg (by omega), if_neg (by simp; omega)]; simp
    · cases h
  | c :: cs, off + 1, v :: vs, r, h => by
    unfold setL at h
    split at h
    · rename_i r' hr
      cases h
      obtain ⟨h1, h2, h3⟩ := setL_ok hr
      have h4 := h3.resolve_left (by simp)
      refine ⟨by simp [h1], fun i => ?_, .inr (by simp at h4 ⊢; omega)⟩
      cases i with
      | zero => simp
      | succ i =>
        rw [List.getElem?_cons_succ, h2]
        by_cases hi : off ≤ i ∧ i < off + (v :: vs).length
        · rw [if_pos hi, if_pos (by omega)]; congr 1; omega
        · rw [if_neg hi, if_neg (by omega)]; simp
    · cases h
section
variable {P : Program} {ρ : Env} {T : Nat → Nat → Prop} {s s' : St} {w w' : World}
theorem lt_n {b : Nat} {x : ABlk} (hw : WfS s) (h : s.heap.get b = some x) : b < s.n := by
  rcases Nat.lt_or_ge b s.n with h1 | h1
  · exact h1
  · rw [hw b h1] at h; cases h
theorem rd_mono {b off n : Nat} {cs : List AV} (h : rdCells s b off n = some (cs, s')) : s' = s.note (.rd b off n) ∧ Mono s s' := by
  unfold rdCells at h
  split at h
  · rename_i hb
    split at h
    · simp only [Option.some.injEq, Prod.mk.injEq] at h
      obtain ⟨_, rfl⟩ := h
      exact ⟨rfl, Mono.note _ _ ⟨_, hb, trivial⟩⟩
    · cases h
  · cases h
/-- Cells read. -/
theorem rd_ok {b off n : Nat} {cs : List AV} {r : RB} (h : rdCells s b off n = some (cs, s')) (hp : Pre ρ T s s' w) (hr : ρ b = some r) :
    ∃ vs : List Value, vs.length = n ∧ VRL ρ cs vs ∧ ∀ j v, vs[j]? = some v → w.cell? ((r.at off).add j) = some v := by
  obtain ⟨he, _⟩ := rd_mono h
  unfold rdCells at h
  split at h
  · rename_i t cs0 hb
    split at h
    · rename_i l hl
      simp only [Option.some.injEq, Prod.mk.injEq] at h
      obtain ⟨rfl, rfl⟩ := h
      obtain ⟨h1, h2⟩ := cutL_ok hl
      by_cases hn : n = 0
      · subst hn
        exact ⟨[], rfl, by rw [h1]; exact .nil, fun j v hv => by simp at hv⟩
      · have h2 : off + n ≤ cs0.length := h2.resolve_left hn
        have hT : ∀ i, off ≤ i → i < off + n → T b i := fun i h3 h4 => hp.cov (.rd b off n) (by rw [he]; exact List.mem_cons_self ..) (lt_n hp.wf hb) b i ⟨rfl, h3, h4⟩
        obtain ⟨r0, c, fr, g1, g2, g3, g4, g5, g6⟩ := hp.good.sat b _ hb ⟨off, hT off (Nat.le_refl _) (by omega)⟩
        replace g4 := g4.1
        have : r0 = r := Option.some.inj (g1.symm.trans hr)
        subst this
        refine ⟨(c.toList.drop (r0.base + off)).take n, by simp; omega, ?_, fun j v hv => ?_⟩
        · rw [h1]
          refine VRL.of_get (by simp; omega) (fun i a v ha hv => ?_)
          have hi : i < n := by
            have := (List.getElem?_eq_some_iff.1 ha).1
            simp at this; omega
          rw [List.getElem?_take_of_lt hi, List.getElem?_drop] at ha hv
          obtain ⟨u, hu, hR⟩ := g6 (off + i) a ha (hT _ (by omega) (by omega))
          rw [← Array.getElem?_toList, ← Nat.add_assoc] at hu
          rw [hu] at hv
          cases hv
          exact hR
        · have hj : j < n := by
            have := (List.getElem?_eq_some_iff.1 hv).1
            simp at this; omega
          rw [List.getElem?_take_of_lt hj, List.getElem?_drop, Array.getElem?_toList] at hv
          rw [RB.at_add]
          unfold RB.at
          rw [cell_in g2, ← hv, Nat.add_assoc]
    · cases h
  · cases h
theorem run_cells {a : Addr} {vs : List Value} (h : ∀ j v, vs[j]? = some v → w.cell? (a.add j) = some v) : (loadCells a vs.length).run P w = .ok vs.toArray w := run_loadCells_list (P := P) (w := w) a vs h
/-- What a reckoned step of the model's gives. -/
def OK1 (P : Program) (m : Sem Value) (ρ : Env) (T : Nat → Nat → Prop) (s : St) (w : World) (v : AV) (s' : St) : Prop :=
  ∃ ρ' w' v', m.run P w = .ok v' w' ∧ Post ρ T s w ρ' s' w' ∧ VR ρ' v v'
theorem OK1.pure {m : Sem Value} {v : AV} {v' : Value} (hp : Pre ρ T s s w) (h : m.run P w = .ok v' w) (hv : VR ρ v v') : OK1 P m ρ T s w v s :=
  ⟨ρ, w, v', h, Post.same hp.good rfl rfl (Still.refl w), hv⟩
theorem opLoad_mono {t : TypeId} {x v : AV} (h : opLoad P t x s = some (v, s')) : Mono s s' := by
  unfold opLoad at h
  split at h
  · split at h
    · rename_i hr
      cases h
      exact (rd_mono hr).2
    · cases h
  · split at h
    · rename_i hr
      cases h
      exact (rd_mono hr).2
    · cases h
  · cases h
theorem opLoad_ok {t : TypeId} {x v : AV} {x' : Value} (h : opLoad P t x s = some (v, s')) (hp : Pre ρ T s s' w) (hx : VR ρ x x') : OK1 P (Instr.loadAt t x') ρ T s w v s' := by
  unfold opLoad at h
  split at h
  · rename_i b off n ha hs
    split at h
    · rename_i cs s1 hr
      simp only [Option.some.injEq, Prod.mk.injEq] at h
      obtain ⟨rfl, rfl⟩ := h
      cases hx with
      | ptr b off r hb =>
        obtain ⟨vs, h1, h2, h3⟩ := rd_ok hr hp hb
        obtain ⟨e, _⟩ := rd_mono hr
        subst h1
        refine ⟨ρ, w, .agg vs.toArray, ?_, Post.same hp.good (by rw [e]; rfl) (by rw [e]; rfl) (Still.refl w), .agg _ _ (by simpa using h2)⟩
        simp [Instr.loadAt, Instr.sureAddr, loadVar, run_agg ha, run_szOf hs, run_cells h3]
    · cases h
  · rename_i b off ha
    split at h
    · rename_i v1 s1 hr
      simp only [Option.some.injEq, Prod.mk.injEq] at h
      obtain ⟨rfl, rfl⟩ := h
      cases hx with
      | ptr b off r hb =>
        obtain ⟨vs, h1, h2, h3⟩ := rd_ok hr hp hb
        obtain ⟨e, _⟩ := rd_mono hr
        match vs, h1 with
        | [u], _ =>
          cases h2 with
          | cons _ _ _ _ hv _ =>
            have hc := h3 0 u rfl
            rw [RB.at_add, Nat.add_zero] at hc
            refine ⟨ρ, w, u, ?_, Post.same hp.good (by rw [e]; rfl) (by rw [e]; rfl) (Still.refl w), hv⟩
            simp [Instr.loadAt, Instr.sureAddr, loadVar, run_agg ha, hc]
    · cases h
  · cases h
theorem heap_modify {w : World} {B : Nat} {c : Array Value} {t : TypeId} {fr : Nat × Nat} (h : w.heap[B]? = some (.cells c t fr)) (o : Nat) (v : Value) :
    (w.setCell ⟨B, o, none⟩ v).heap[B]? = some (.cells (c.setIfInBounds o v) t fr) ∧ (∀ B', B' ≠ B → (w.setCell ⟨B, o, none⟩ v).heap[B']? = w.heap[B']?) ∧ (w.setCell ⟨B, o, none⟩ v).heap.size = w.heap.size := by
  refine ⟨?_, fun B' hB => ?_, ?_⟩
  · simp [World.setCell, Array.getElem?_modify, h]
  · simp [World.setCell, Array.getElem?_modify, Ne.symm hB]
  · simp [World.setCell]
/-- Cells stored one behind the other. -/
theorem run_stores {B o : Nat} {t : TypeId} {fr : Nat × Nat} : ∀ (vs : List Value) (i : Nat) (c : Array Value) (w : World), w.heap[B]? = some (.cells c t fr) → (∀ v ∈ vs, v.oneCell' = true) → o + i + vs.length ≤ c.size →
    (∀ j, o + i ≤ j → j < c.size → (decide (fr.1 ≤ j) && decide (j < fr.2)) = false) → ∃ c' w', (storeCells ⟨B, o, none⟩ vs i).run P w = .ok () w' ∧ w'.heap[B]? = some (.cells c' t fr) ∧ c'.size = c.size ∧
      (∀ j, c'[j]? = if o + i ≤ j ∧ j < o + i + vs.length then vs[j - (o + i)]? else c[j]?) ∧ (∀ B', B' ≠ B → w'.heap[B']? = w.heap[B']?) ∧ w'.heap.size = w.heap.size ∧ w'.os = w.os ∧ w'.tape = w.tape ∧ w'.output = w.output
  | [], i, c, w, h, _, _, _ => ⟨c, w, rfl, h, rfl, fun j => by rw [if_neg (by simp only [List.length_nil]; omega)], fun _ _ => rfl, rfl, rfl, rfl, rfl⟩
  | v :: vs, i, c, w, h, ho, hs, hf => by
    simp only [List.length_cons] at hs
    have ha : (⟨B, o, none⟩ : Addr).add i = ⟨B, o + i, none⟩ := by
      unfold Addr.add; split
      · rename_i h0; subst h0; rfl
      · rfl
    have hc : ∃ u, w.cell? ⟨B, o + i, none⟩ = some u := by rw [cell_in h]; exact ⟨_, Array.getElem?_eq_getElem (by omega)⟩
    have hz : w.frozen? ⟨B, o + i, none⟩ = false := by
      simp only [World.frozen?, h]
      have := hf (o + i) (Nat.le_refl _) (by omega)
      simpa using this
    obtain ⟨u, hu⟩ := hc
    obtain ⟨m1, m2, m3⟩ := heap_modify h (o + i) v
    obtain ⟨c', w', g1, g2, g3, g4, g5, g6, g7, g8, g9⟩ := run_stores (B := B) (o := o) vs (i + 1) (c.setIfInBounds (o + i) v) (w.setCell ⟨B, o + i, none⟩ v) m1 (fun x hx => ho x (List.mem_cons_of_mem _ hx)) (by simp; omega) (fun j h1 h2 => hf j (by omega) (by simpa using h2))
    refine ⟨c', w', ?_, g2, by rw [g3]; simp, fun j => ?_, fun B' hB => (g5 B' hB).trans (m2 B' hB), g6.trans m3, g7, g8, g9⟩
    · unfold storeCells
      rw [Sem.run_bind, ha, run_store P w _ v .plain (ho v (List.mem_cons_self ..)), hu]
      simp only [hz, Bool.false_eq_true, if_false, Result.andThen_ok]
      exact g1
    · rw [g4]
      by_cases hj : o + (i + 1) ≤ j ∧ j < o + (i + 1) + vs.length
      · rw [if_pos hj, if_pos (by simp only [List.length_cons]; omega), show j - (o + i) = (j - (o + (i + 1))) + 1 by omega, List.getElem?_cons_succ]
      · rw [if_neg hj]
        by_cases hji : j = o + i
        · subst hji
          rw [if_pos (by simp only [List.length_cons]; omega), Nat.sub_self, List.getElem?_cons_zero, Array.getElem?_setIfInBounds, if_pos rfl, if_pos (by omega)]
        · rw [if_neg (by simp only [List.length_cons]; omega), Array.getElem?_setIfInBounds, if_neg (Ne.symm hji)]
theorem wr_mono {b off : Nat} {vs : List AV} (h : wrCells s b off vs = some s') : Mono s s' := by
  unfold wrCells at h
  split at h
  · rename_i hb
    split at h
    · split at h
      · rename_i hset
        cases h
        obtain ⟨h1, h2, _⟩ := setL_ok hset
        exact Mono.write _ _ hb h1 (fun i hi => by rw [h2, if_neg hi])
      · cases h
    · cases h
  · cases h
theorem VRL.ones {l : List AV} {vs : List Value} (h : VRL ρ l vs) (ho : l.all Rk.one = true) : ∀ v ∈ vs, v.oneCell' = true := by
  intro v hv
  obtain ⟨i, hi⟩ := List.getElem?_of_mem hv
  have hl := h.length
  have hil : i < l.length := by have := (List.getElem?_eq_some_iff.1 hi).1; omega
  obtain ⟨u, hu, hR⟩ := h.get i (List.getElem?_eq_getElem hil)
  rw [hi] at hu
  cases hu
  exact one_ok hR (List.all_eq_true.1 ho _ (List.getElem_mem hil))
/-- Cells written. -/
theorem wr_ok {b off : Nat} {vs : List AV} {vs' : List Value} {r : RB} (h : wrCells s b off vs = some s') (hp : Pre ρ T s s' w) (hr : ρ b = some r) (hv : VRL ρ vs vs') :
    ∃ w', (storeCells (r.at off) vs').run P w = .ok () w' ∧ Post ρ T s w ρ s' w' := by
  unfold wrCells at h
  split at h
  · rename_i t cs hb
    split at h
    · rename_i hone
      split at h
      · rename_i cs' hset
        cases h
        simp only [Bool.and_eq_true, Bool.not_eq_true', List.isEmpty_eq_false_iff] at hone
        obtain ⟨h1, h2, h3⟩ := setL_ok hset
        have h3 := h3.resolve_left hone.2
        have hlen := hv.length
        have hpos : 0 < vs.length := List.length_pos_iff.2 hone.2
        have hT : ∀ i, off ≤ i → i < off + vs.length → T b i := fun i h4 h5 => hp.cov (.wr b off vs.length) (List.mem_cons_self ..) (lt_n hp.wf hb) b i ⟨rfl, h4, h5⟩
        have hTb : ∃ i, T b i := ⟨off, hT off (Nat.le_refl _) (by omega)⟩
        obtain ⟨r0, c, fr, g1, g2, g3, g4, g5, g6⟩ := hp.good.sat b _ hb hTb
        replace g4 := g4.1
        have : r0 = r := Option.some.inj (g1.symm.trans hr)
        subst this
        obtain ⟨c', w', k1, k2, k3, k4, k5, k6, k7, k8, k9⟩ := run_stores (P := P) (o := r0.base + off) vs' 0 c w g2 (hv.ones hone.1) (by omega) (fun j h4 h5 => g5 j (by omega) h5)
        refine ⟨w', k1, Post.write (n := vs.length) hp.good hb hTb hr g2 ⟨k7, k8, k9, k6, k2, k5⟩ k3 (fun o ho => ?_) hpos h1 (fun i a ha hTi => ?_)⟩
        · rw [k4, if_neg (by omega)]
        · rw [h2] at ha
          rw [k4]
          by_cases hi : off ≤ i ∧ i < off + vs.length
          · rw [if_pos hi] at ha
            rw [if_pos (by omega), show r0.base + i - (r0.base + off + 0) = i - off by omega]
            exact hv.get _ ha
          · rw [if_neg hi] at ha
            rw [if_neg (by omega)]
            exact g6 i a ha hTi
      · cases h
    · cases h
  · cases h
theorem opStore_mono {t : TypeId} {x y : AV} (h : opStore P t x y s = some s') : Mono s s' := by
  unfold opStore at h
  split at h
  · split at h
    · split at h
      · cases h; exact Mono.refl _
      · exact wr_mono h
    · cases h
  · cases h
theorem opStore_ok {t : TypeId} {x y : AV} {x' y' : Value} (h : opStore P t x y s = some s') (hp : Pre ρ T s s' w) (hx : VR ρ x x') (hy : VR ρ y y') :
    ∃ w', (Instr.storeAt t x' y').run P w = .ok () w' ∧ Post ρ T s w ρ s' w' := by
  unfold opStore at h
  split at h
  · rename_i b off cs n hc hs
    split at h
    · rename_i hl
      cases hx with
      | ptr b off r hb =>
        have hv := cells_ok hy hc
        have hsz : y'.cells.size = n := by
          have := hv.length
          rw [Array.length_toList] at this
          omega
        split at h
        · rename_i hn0
          cases h
          refine ⟨w, ?_, Post.same hp.good rfl rfl (Still.refl w)⟩
          have he : y'.cells.toList = [] := List.length_eq_zero_iff.1 (by rw [Array.length_toList]; omega)
          simp [Instr.storeAt, Instr.sureAddr, storeVar, run_szOf hs, hsz, he, storeCells]
        · obtain ⟨w', h1, h2⟩ := wr_ok (P := P) h hp hb hv
          refine ⟨w', ?_, h2⟩
          simp [Instr.storeAt, Instr.sureAddr, storeVar, run_szOf hs, hsz, h1]
    · cases h
  · cases h
end
end Go.Proofs.YtjikgmbhnknojaaGreatDoor.Rk

/- What the reckoner's makings of blocks say of the model's. Plain lemmas. -/
namespace Go.Proofs.YtjikgmbhnknojaaGreatDoor.Rk
open Go
set_option linter.unusedVariables false
theorem foldl_set (off : Nat) : ∀ (l : List Value) (k : Nat) (arr : Array Value), off + k + l.length ≤ arr.size →
    ((l.zipIdx k).foldl (fun cs (x : Value × Nat) => cs.setIfInBounds (off + x.2) x.1) arr).size = arr.size ∧ ∀ i, ((l.zipIdx k).foldl (fun cs (x : Value × Nat) => cs.setIfInBounds (off + x.2) x.1) arr)[i]? = if off + k ≤ i ∧ i < off + k + l.length then l[i - (off + k)]? else arr[i]?
  | [], k, arr, h => by
    simp only [List.zipIdx_nil, List.foldl_nil]
    exact ⟨trivial, fun i => by rw [if_neg (by simp only [List.length_nil]; omega)]⟩
  | v :: l, k, arr, h => by
    simp only [List.length_cons] at h
    obtain ⟨h1, h2⟩ := foldl_set off l (k + 1) (arr.setIfInBounds (off + k) v) (by simp; omega)
    simp only [List.zipIdx_cons, List.foldl_cons]
    refine ⟨by rw [h1]; simp, fun i => ?_⟩
    rw [h2]
    by_cases hi : off + (k + 1) ≤ i ∧ i < off + (k + 1) + l.length
    · rw [if_pos hi, if_pos (by simp only [List.length_cons]; omega), show i - (off + k) = (i - (off + (k + 1))) + 1 by omega, List.getElem?_cons_succ]
    · rw [if_neg hi]
      by_cases hik : i = off + k
      · subst hik
        rw [if_pos (by simp only [List.length_cons]; omega), Nat.sub_self, List.getElem?_cons_zero, Array.getElem?_setIfInBounds, if_pos rfl, if_pos (by omega)]
      · rw [if_neg (by simp only [List.length_cons]; omega), Array.getElem?_setIfInBounds, if_neg (Ne.symm hik)]
theorem VRL.size {ρ : Env} {l : List AV} {a : Array Value} (h : VRL ρ l a.toList) : a.size = l.length := by
  have := h.length
  rwa [Array.length_toList] at this
/-- Two lists of parts. -/
inductive PR (ρ : Env) : List (Nat × AV) → List (Nat × Value) → Prop
  | nil : PR ρ [] []
  | cons (i : Nat) (x : AV) (v : Value) (l : List (Nat × AV)) (k : List (Nat × Value)) (h : VR ρ x v) (t : PR ρ l k) : PR ρ ((i, x) :: l) ((i, v) :: k)
theorem fill_ok {ρ : Env} {place : Nat → Option (Nat × Nat)} : ∀ {ps : List (Nat × AV)} {ps' : List (Nat × Value)} {cells r : List AV} {cells' : Array Value}, fillA place cells ps = some r → PR ρ ps ps' → VRL ρ cells cells'.toList →
    ∃ r', Instr.fill place cells' ps' = some r' ∧ VRL ρ r r'.toList
  | [], _, cells, r, cells', h, .nil, hc => by simp [fillA] at h; subst h; exact ⟨cells', rfl, hc⟩
  | (i, x) :: l, _, cells, r, cells', h, .cons _ _ v _ k hv ht, hc => by
    unfold fillA at h
    split at h
    · rename_i off size hpl
      split at h
      · rename_i c hcx
        split at h
        · rename_i hlen
          split at h
          · rename_i c2 hset
            obtain ⟨s1, s2, s3⟩ := setL_ok hset
            have hvc := cells_ok hv hcx
            have hsz := hvc.size
            have hcs := hc.size
            have s3 := s3.resolve_left (fun e => by subst e; simp at hlen; omega)
            have hb : off + v.cells.size ≤ cells'.size := by omega
            have hf := foldl_set off v.cells.toList 0 cells' (by simpa using hb)
            have hz : v.cells.zipIdx.foldl (fun cs (x : Value × Nat) => cs.setIfInBounds (off + x.2) x.1) cells' = (v.cells.toList.zipIdx 0).foldl (fun cs (x : Value × Nat) => cs.setIfInBounds (off + x.2) x.1) cells' := by
              rw [← Array.foldl_toList, Array.toList_zipIdx]
            have hvr : VRL ρ c2 (v.cells.zipIdx.foldl (fun cs (x : Value × Nat) => cs.setIfInBounds (off + x.2) x.1) cells').toList := by
              rw [hz]
              refine VRL.of_get (by rw [Array.length_toList, hf.1, s1, hcs]) (fun j a u ha hu => ?_)
              rw [Array.getElem?_toList, hf.2] at hu
              rw [s2] at ha
              by_cases hj : off ≤ j ∧ j < off + c.length
              · rw [if_pos hj] at ha
                rw [if_pos (by rw [Array.length_toList]; omega)] at hu
                obtain ⟨u', hu', hR⟩ := hvc.get _ ha
                rw [show j - (off + 0) = j - off by omega, hu'] at hu
                cases hu
                exact hR
              · rw [if_neg hj] at ha
                rw [if_neg (by rw [Array.length_toList]; omega)] at hu
                obtain ⟨u', hu', hR⟩ := hc.aget ha
                rw [hu'] at hu
                cases hu
                exact hR
            obtain ⟨r', h1, h2⟩ := fill_ok h ht hvr
            refine ⟨r', ?_, h2⟩
            unfold Instr.fill
            simp only [hpl]
            rw [if_neg (by simp only [Bool.or_eq_true, decide_eq_true_eq]; omega)]
            exact h1
          · cases h
        · cases h
      · cases h
    · cases h
theorem repL_get (z : List AV) : ∀ (n i : Nat), i < n * z.length → (repL z n)[i]? = z[i % z.length]?
  | 0, i, h => by simp at h
  | n + 1, i, h => by
    unfold repL
    rw [Nat.add_mul] at h
    by_cases hi : i < z.length
    · rw [List.getElem?_append_left hi, Nat.mod_eq_of_lt hi]
    · rw [List.getElem?_append_right (by omega), repL_get z n _ (by omega)]
      congr 1
      exact (Nat.mod_eq_sub_mod (by omega)).symm
theorem repL_len (z : List AV) : ∀ n : Nat, (repL z n).length = n * z.length
  | 0 => by simp [repL]
  | n + 1 => by unfold repL; rw [List.length_append, repL_len z n, Nat.add_mul]; omega
theorem repL_ok {ρ : Env} {z : List AV} {zero : Array Value} (h : VRL ρ z zero.toList) (hz : 0 < z.length) (n m : Nat) (hm : n ≤ m) (hs : zero.size = z.length) :
    ∀ (i : Nat) (a : AV), (repL z n)[i]? = some a → ∃ v, ((Array.range (m * z.length)).map (fun i => zero[i % zero.size]!))[i]? = some v ∧ VR ρ a v := by
  intro i a ha
  have hi : i < n * z.length := by
    have := (List.getElem?_eq_some_iff.1 ha).1
    rwa [repL_len] at this
  rw [repL_get z n i hi] at ha
  obtain ⟨v, hv, hR⟩ := h.aget ha
  have hle : n * z.length ≤ m * z.length := Nat.mul_le_mul_right _ hm
  refine ⟨v, ?_, hR⟩
  have hmod : i % zero.size < zero.size := Nat.mod_lt _ (by omega)
  rw [Array.getElem?_map, Array.getElem?_eq_getElem (by simp; omega)]
  simp only [Array.getElem_range, Option.map_some, Option.some.injEq]
  rw [hs] at hmod ⊢
  rw [getElem!_pos zero (i % z.length) (by omega)]
  rw [Array.getElem?_eq_getElem (by omega)] at hv
  exact Option.some.inj hv
section
variable {P : Program} {ρ : Env} {T : Nat → Nat → Prop} {s s' : St} {w w' : World}
theorem run_row (e : TypeId) (c : Array Value) (w : World) : (newRow e c).run P w = .ok ⟨w.heap.size, 0, none⟩ { w with heap := w.heap.push (.cells c e) } := rfl
/-- A row that has been made. -/
theorem made_ok {e : TypeId} {cs : List AV} {c : Array Value} {fr : Nat × Nat} (hp : Pre ρ T s (s.new (.cells (2 * e) cs)) w) (hw : Add w w' (.cells c e fr)) (hfr : ∀ o, o < c.size → (decide (fr.1 ≤ o) && decide (o < fr.2)) = false) (hl : cs.length ≤ c.size)
    (hv : ∀ (i : Nat) (a : AV), cs[i]? = some a → ∃ v, c[i]? = some v ∧ VR ρ a v) : Post ρ T s w (ρ.add s.n ⟨w.heap.size, 0, c.size⟩) (s.new (.cells (2 * e) cs)) w' := by
  have hf : ρ s.n = none := hp.fresh s.n (Nat.le_refl _) (Nat.lt_succ_self _)
  refine Post.made hp.good hp.wf hf hp.tn hw rfl ⟨⟨w.heap.size, 0, c.size⟩, c, fr, Env.add_self _ _, (by rw [two_half]; exact hw.here), by simp, Fits.even e hl, fun o _ h => hfr o h, fun i a ha _ => ?_⟩
  obtain ⟨v, h1, h2⟩ := hv i a ha
  exact ⟨v, by simpa using h1, h2.mono (Env.add_le hf)⟩
theorem made_ptr {e : TypeId} {cs : List AV} {c : Array Value} {m : Sem Value} (hp : Pre ρ T s (s.new (.cells (2 * e) cs)) w) (hm : m.run P w = .ok (.pointer (some ⟨w.heap.size, 0, none⟩)) { w with heap := w.heap.push (.cells c e) }) (hv : VRL ρ cs c.toList) : OK1 P m ρ T s w (.ptr s.n 0) (s.new (.cells (2 * e) cs)) :=
  ⟨_, _, _, hm, made_ok hp (Add.push w _) (fun o _ => by simp) (by rw [hv.size]; exact Nat.le_refl _) (fun i a h => hv.aget h), .ptr s.n 0 _ (Env.add_self _ _)⟩
theorem made_ptr1 {e : TypeId} {cs : List AV} {c : Array Value} {m : Sem Value} (hp : Pre ρ T s (s.new (.cells (2 * e + 1) cs)) w) (hm : m.run P w = .ok (.pointer (some ⟨w.heap.size, 0, none⟩)) { w with heap := w.heap.push (.cells c e) }) (hv : VRL ρ cs c.toList) : OK1 P m ρ T s w (.ptr s.n 0) (s.new (.cells (2 * e + 1) cs)) :=
  have hf : ρ s.n = none := hp.fresh s.n (Nat.le_refl _) (Nat.lt_succ_self _)
  ⟨_, _, _, hm, Post.made hp.good hp.wf hf hp.tn (Add.push w _) rfl ⟨⟨w.heap.size, 0, c.size⟩, c, (0, 0), Env.add_self _ _, (by rw [two_half1]; exact (Add.push w (.cells c e)).here), by simp, ⟨by rw [hv.size]; exact Nat.le_refl _, fun _ => ⟨rfl, hv.size⟩⟩, fun o _ h => by simp, fun i a ha _ => by
    obtain ⟨v, h1, h2⟩ := hv.aget ha
    exact ⟨v, by simpa using h1, h2.mono (Env.add_le hf)⟩⟩, .ptr s.n 0 _ (Env.add_self _ _)⟩
theorem made_slice {e : TypeId} {cs : List AV} {c : Array Value} {m : Sem Value} {len cap mc es : Nat} (hp : Pre ρ T s (s.new (.cells (2 * e) cs)) w) (hm : m.run P w = .ok (.slice (some ⟨w.heap.size, 0, none⟩) len cap) { w with heap := w.heap.push (.cells c e) })
    (hl : cs.length ≤ c.size) (hv : ∀ (i : Nat) (a : AV), cs[i]? = some a → ∃ v, c[i]? = some v ∧ VR ρ a v) (h1 : len ≤ mc) (h2 : mc ≤ cap) (h3 : cap * es ≤ c.size) : OK1 P m ρ T s w (.slice s.n 0 len mc es) (s.new (.cells (2 * e) cs)) :=
  ⟨_, _, _, hm, made_ok hp (Add.push w _) (fun o _ => by simp) hl hv, .slice s.n 0 len mc es _ _ _ (Env.add_self _ _) h1 h2 (.inr ⟨rfl, by simpa using h3⟩)⟩
theorem zeroC_ok {t : TypeId} {z : List AV} (h : zeroC P t = some z) (w : World) : ∃ v, (zeroValue t).run P w = .ok v w ∧ VRL ρ z v.cells.toList := by
  unfold zeroC at h
  cases hz : zeroA P t with
  | none => rw [hz] at h; cases h
  | some a =>
    rw [hz] at h
    obtain ⟨v, h1, _, h3⟩ := run_zero (ρ := ρ) hz w
    exact ⟨v, h1, cells_ok h3 h⟩
theorem opAlloc_ok {t : TypeId} {z : List AV} (h : zeroC P t = some z) (hp : Pre ρ T s (s.new (.cells (2 * t + 1) z)) w) : OK1 P (Instr.alloc t true (.tuple #[])) ρ T s w (.ptr s.n 0) (s.new (.cells (2 * t + 1) z)) := by
  obtain ⟨v, h1, h2⟩ := zeroC_ok (ρ := ρ) h w
  exact made_ptr1 hp (by simp [Instr.alloc, h1, newVar, run_row]) h2
theorem opBox_ok {t : TypeId} {x : AV} {x' : Value} {c : List AV} (h : cellsA x = some c) (hp : Pre ρ T s (s.new (.cells (2 * t + 1) c)) w) (hx : VR ρ x x') : OK1 P (Instr.box t x') ρ T s w (.ptr s.n 0) (s.new (.cells (2 * t + 1) c)) :=
  made_ptr1 hp (by simp [Instr.box, newVar, run_row]) (cells_ok hx h)
theorem opBuildSlice_mono {t : TypeId} {len : Nat} {ps : List (Nat × AV)} {v : AV} (h : opBuildSlice P t len ps s = some (v, s')) : Mono s s' := by
  unfold opBuildSlice at h
  split at h
  · split at h
    · split at h
      · split at h
        · cases h; exact Mono.new _ _
        · cases h
      · cases h
    · cases h
  · cases h
theorem opBuildSlice_ok {t : TypeId} {len : Nat} {ps : List (Nat × AV)} {ps' : Array (Nat × Value)} {v : AV} (h : opBuildSlice P t len ps s = some (v, s')) (hp : Pre ρ T s s' w) (hx : PR ρ ps ps'.toList) : OK1 P (Instr.buildSlice t len ps') ρ T s w v s' := by
  unfold opBuildSlice at h
  split at h
  · rename_i e hu
    split at h
    · rename_i n z hs hz
      split at h
      · rename_i hc
        obtain ⟨hc1, hc2, hc3⟩ := hc
        split at h
        · rename_i cs hf
          cases h
          obtain ⟨zv, hz1, hz2⟩ := zeroC_ok (ρ := ρ) hz w
          have hzs := hz2.size
          have hrep := repL_ok hz2 (by omega) len len (Nat.le_refl _) hzs
          rw [hc3] at hrep hzs
          have hbase : VRL ρ (repL z len) ((Array.range (len * n)).map (fun i => zv.cells[i % zv.cells.size]!)).toList := by
            refine VRL.of_get (by rw [Array.length_toList, repL_len, hc3]; simp) (fun i a v ha hv => ?_)
            obtain ⟨u, hu1, hR⟩ := hrep i a ha
            rw [Array.getElem?_toList, hu1] at hv
            cases hv
            exact hR
          obtain ⟨r', hr1, hr2⟩ := fill_ok hf hx hbase
          have hln : cs.length = len * n := by
            have h0 : ∀ {ps : List (Nat × AV)} {cells r : List AV} {place : Nat → Option (Nat × Nat)}, fillA place cells ps = some r → r.length = cells.length := by
              intro ps
              induction ps with
              | nil => intro cells r place h; simp [fillA] at h; subst h; rfl
              | cons p l ih =>
                intro cells r place h
                obtain ⟨i, x⟩ := p
                unfold fillA at h
                split at h
                · split at h
                  · split at h
                    · split at h
                      · rename_i hset
                        rw [ih h, (setL_ok hset).1]
                      · cases h
                    · cases h
                  · cases h
                · cases h
            rw [h0 hf, repL_len, hc3]
          have hrs := hr2.size
          refine made_slice hp (c := r') ?_ (by omega) (fun i a ha => hr2.aget ha) (Nat.le_refl _) (Nat.le_refl _) (by omega)
          have hmod : (fun x => zv.cells[x % n]!) = fun i => zv.cells[i % zv.cells.size]! := by rw [hzs]
          have hnot : ¬ len * n > 2 ^ 24 := by omega
          unfold Instr.buildSlice
          simp only [Sem.run_bind, run_underlying hu, Result.andThen_ok, run_szOf hs, Sem.run_ite, if_neg hnot, Sem.run_pure]
          by_cases h0 : len * n = 0
          · have hl0 : len = 0 := by
              rcases Nat.mul_eq_zero.1 h0 with h | h <;> omega
            subst hl0
            simp only [Nat.zero_mul, if_true]
            have : ((Array.range 0).map (fun x => (#[] : Array Value)[x % (#[] : Array Value).size]!)) = ((Array.range (0 * n)).map (fun i => zv.cells[i % zv.cells.size]!)) := by simp
            rw [this, hr1]
            simp [run_row]
          · simp only [if_neg h0, hz1, Result.andThen_ok]
            rw [hr1]
            simp [run_row]
        · cases h
      · cases h
    · cases h
  · cases h
end
end Go.Proofs.YtjikgmbhnknojaaGreatDoor.Rk

/- What the reckoner's conversions, makes and appends say of the model's. Plain lemmas. -/
namespace Go.Proofs.YtjikgmbhnknojaaGreatDoor.Rk
open Go
set_option linter.unusedVariables false
section
variable {P : Program} {ρ : Env} {T : Nat → Nat → Prop} {s s' : St} {w w' : World}
theorem zeroC_info {t : TypeId} {z : List AV} {i : TypeInfo} (h : zeroC P t = some z) (hi : P.info? t = some i) : ∃ v, i.zero = some v ∧ VRL ρ z v.cells.toList := by
  unfold zeroC zeroA at h
  rw [hi] at h
  cases hz : i.zero with
  | none => simp [hz] at h
  | some v =>
    simp [hz] at h
    exact ⟨v, rfl, cells_ok (ofV_ok 3 v) h⟩
theorem opMakeSlice_mono {t : TypeId} {l c v : AV} (h : opMakeSlice P t l c s = some (v, s')) : Mono s s' := by
  unfold opMakeSlice at h
  split at h
  · split at h
    · split at h
      · cases h; exact Mono.new _ _
      · cases h
    · cases h
  · cases h
theorem opMakeSlice_ok {t : TypeId} {l c v : AV} {l' c' : Value} (h : opMakeSlice P t l c s = some (v, s')) (hp : Pre ρ T s s' w) (hl : VR ρ l l') (hc : VR ρ c c') : OK1 P (Instr.makeSlice t l' c') ρ T s w v s' := by
  unfold opMakeSlice at h
  split at h
  · rename_i e kl n kc m hu
    split at h
    · rename_i i z hi hz
      split at h
      · rename_i hc0
        obtain ⟨h1, h2, h3, h4, h5⟩ := hc0
        cases h
        cases hl
        cases hc
        obtain ⟨zv, hzi, hzv⟩ := zeroC_info (ρ := ρ) hz hi
        have hzs := hzv.size
        have hb : (i.bytes : Int) * ((m : Nat) : Int) ≤ 281474976710656 := by
          have h6 : i.bytes * m ≤ 100000 * 1000000 := Nat.mul_le_mul h3 (by omega)
          have : ((i.bytes * m : Nat) : Int) ≤ 281474976710656 := by omega
          rwa [Int.natCast_mul] at this
        have hr := run_make (P := P) w t e i zv hu hi hzi kl kc n m (by omega) (by omega) hb (by omega)
        have hrep := repL_ok hzv (by omega) n m h1 hzs
        simp only [Int.toNat_natCast] at hr
        refine made_slice hp (c := madeCells zv.cells (m * i.size)) hr (by rw [size_madeCells, repL_len, h5]; exact Nat.mul_le_mul_right _ h1) (fun j a ha => ?_) h1 (Nat.le_refl _) (by rw [size_madeCells]; exact Nat.le_refl _)
        rw [h5] at hrep
        exact hrep j a ha
      · cases h
    · cases h
  · cases h
theorem byteAt_ok : ∀ {cs : List AV} {l : List Nat} {vs : List Value}, byteAt cs = some l → VRL ρ cs vs → ∃ xs : List Int, xs.length = cs.length ∧ vs = xs.map (Value.int .u8) ∧ (∀ x ∈ l, x < 256) ∧ xs.map (fun n => UInt8.ofNat n.toNat) = l.map UInt8.ofNat
  | [], l, _, h, .nil => by simp [byteAt] at h; subst h; exact ⟨[], rfl, rfl, by simp, rfl⟩
  | a :: cs, l, _, h, .cons _ v _ vs hv ht => by
    unfold byteAt at h
    split at h
    · rename_i he; cases he
    · rename_i n l' he
      cases he
      split at h
      · rename_i r hr
        cases h
        cases hv
        obtain ⟨xs, h1, h2, h3, h4⟩ := byteAt_ok hr ht
        refine ⟨(n : Int) :: xs, by simp [h1], by simp [h2], fun x hx => ?_, ?_⟩
        · rcases List.mem_cons.1 hx with rfl | hx
          · omega
          · exact h3 x hx
        · simp only [List.map_cons, h4]
          congr 1
          apply UInt8.toNat_inj.1
          simp
      · cases h
    · cases h
theorem conv_mono {src dst : TypeId} {x v : AV} (h : conv P src dst x s = some (v, s')) : Mono s s' := by
  unfold conv at h
  split at h
  · cases h; exact Mono.refl _
  · cases h; exact Mono.refl _
  · split at h
    · split at h
      · cases h; exact Mono.refl _
      · cases h
    · cases h
  · split at h
    · split at h
      · split at h
        · rename_i hr
          split at h
          · cases h; exact (rd_mono hr).2
          · cases h
        · cases h
      · cases h
    · cases h
  · split at h
    · split at h
      · cases h; exact Mono.new _ _
      · cases h
    · cases h
  · cases h
theorem bytes_get (l : List Nat) (hl : ∀ x ∈ l, x < 256) : VRL ρ (bytesA l) ((⟨(l.map UInt8.ofNat).toArray⟩ : ByteArray).data.map fun b => Value.int .u8 b.toNat).toList := by
  simp only [Array.toList_map, List.map_map]
  refine VRL.map _ _ _ (fun x hx => ?_)
  have := hl x hx
  have e : (UInt8.ofNat x).toNat = x := by simp; omega
  show VR ρ (.int .u8 (Int.ofNat x)) (.int .u8 ((UInt8.ofNat x).toNat : Int))
  rw [e]
  exact .int _ _
theorem conv_ok {src dst : TypeId} {x v : AV} {x' : Value} (h : conv P src dst x s = some (v, s')) (hsrc : ∃ d, P.underlying src = some d) (hp : Pre ρ T s s' w) (hx : VR ρ x x') : OK1 P (convert src dst x') ρ T s w v s' := by
  obtain ⟨d0, hd0⟩ := hsrc
  unfold conv at h
  split at h
  · rename_i k k' n hu
    cases h
    cases hx
    exact OK1.pure hp (by simp [convert, run_underlying hd0, run_underlying hu, Conv.intToInt]) (.int _ _)
  · rename_i l hu
    cases h
    cases hx with
    | str _ hl => exact OK1.pure hp (by simp [convert, run_underlying hd0, run_underlying hu]) (.str l hl)
  · rename_i hu
    split at h
    · rename_i e hs
      split at h
      · rename_i he
        cases h
        cases hx
        exact OK1.pure hp (run_convert_bytes_nil (P := P) w src e hs he 0 0 dst hu) (VR.string ByteArray.empty)
      · cases h
    · cases h
  · rename_i b off len mc es hu
    split at h
    · rename_i e hs
      split at h
      · rename_i he
        split at h
        · rename_i cs s1 hr
          split at h
          · rename_i l hl
            cases h
            cases hx with
            | slice _ _ _ _ _ r ad cap hb h1 h2 h3 =>
              obtain ⟨vs, g1, g2, g3⟩ := rd_ok hr hp hb
              obtain ⟨e1, _⟩ := rd_mono hr
              obtain ⟨xs, k1, k2, k3, k4⟩ := byteAt_ok hl g2
              have hlen := g2.length
              rcases ad with ⟨B, o, sp⟩
              have hx : xs.length = len := by omega
              have hcell : ∀ i, i < len → (loadCells ⟨B, o, sp⟩ len).run P w = (loadCells ⟨B, o, sp⟩ len).run P w := fun _ _ => rfl
              by_cases h0 : len = 0
              · subst h0
                have : l = [] := by
                  have h5 := congrArg List.length k4
                  simp at h5
                  exact List.length_eq_zero_iff.1 (by omega)
                subst this
                refine ⟨ρ, w, .string ByteArray.empty, ?_, Post.same hp.good (by rw [e1]; rfl) (by rw [e1]; rfl) (Still.refl w), VR.string ByteArray.empty⟩
                simp [convert, run_underlying hs, run_underlying hu, run_underlying he, Conv.bytesToString, loadCells, loadCellsFrom]
              · have had := (h3.resolve_left (by omega)).1
                have hro := run_convert_bytes_arg (P := P) w src e hs he r.blk (r.base + off) len cap xs hx (fun i hi => by
                  have := g3 i (.int .u8 (xs.getD i 0)) (by rw [k2, List.getElem?_map, List.getElem?_eq_getElem (by omega), List.getD_eq_getElem?_getD, List.getElem?_eq_getElem (by omega)]; rfl)
                  rw [RB.at_add] at this
                  rw [← this]
                  unfold RB.at
                  rw [Nat.add_assoc]) dst hu
                refine ⟨ρ, w, .string (strOfNums xs), ?_, Post.same hp.good (by rw [e1]; rfl) (by rw [e1]; rfl) (Still.refl w), ?_⟩
                · rw [had]; exact hro
                · unfold strOfNums
                  rw [k4]
                  exact .str l k3
          · cases h
        · cases h
      · cases h
    · cases h
  · rename_i e l hu
    split at h
    · rename_i he hsz
      split at h
      · rename_i hlen
        cases h
        cases hx with
        | str _ hl =>
          have hbl := bytes_get (ρ := ρ) l hl
          have hbs := hbl.size
          have hsize : (⟨(l.map UInt8.ofNat).toArray⟩ : ByteArray).size = l.length := by simp [ByteArray.size]
          generalize hba : (⟨(l.map UInt8.ofNat).toArray⟩ : ByteArray) = ba at *
          simp only [bytesA, List.length_map] at hbs
          let cap := (Question.appendCap ba.size 0 e).cut (w.tape w.drawn (.appendCap ba.size 0 e))
          have hcap : cap = ba.size + (w.tape w.drawn (.appendCap ba.size 0 e)) % (2 ^ 63 - ba.size) := rfl
          have hbsz : (ba.data.map fun (b : UInt8) => Value.int .u8 b.toNat).size = ba.size := by rw [Array.size_map]; rfl
          let c : Array Value := (ba.data.map fun b => Value.int .u8 b.toNat) ++ Array.replicate (cap - ba.size) (.int .u8 0)
          have hcs : c.size = cap := by
            show ((ba.data.map fun (b : UInt8) => Value.int .u8 b.toNat) ++ Array.replicate (cap - ba.size) (Value.int .u8 0)).size = cap
            rw [Array.size_append, hbsz, Array.size_replicate]; omega
          have hrun : (convert src dst (.string ba)).run P w = .ok (.slice (some ⟨w.heap.size, 0, none⟩) ba.size cap) { w with drawn := w.drawn + 1, heap := w.heap.push (.cells c e (cap, cap + 1)) } := by
            have hconv : (convert src dst (.string ba)).run P w = (Conv.stringToBytes e ba).run P w := by
              unfold convert
              simp only [Sem.run_bind, run_underlying hd0, run_underlying hu, run_underlying he, Result.andThen_ok]
            have hforced : (Question.appendCap ba.size 0 e).forced = false := rfl
            rw [hconv]
            unfold Conv.stringToBytes markStringish
            simp only [Sem.run_bind, run_choose, hforced, Bool.false_eq_true, if_false, Result.andThen_ok, run_row, run_shape]
            show (Result.andThen ((match World.shape? { w with drawn := w.drawn + 1, heap := w.heap.push (.cells c e) } w.heap.size with
              | some (_, n) => freeze { block := w.heap.size, off := n } 1
              | _ => pure () : Sem Unit).run P { w with drawn := w.drawn + 1, heap := w.heap.push (.cells c e) }) fun a w' => (Pure.pure (Value.slice (some ⟨w.heap.size, 0, none⟩) ba.size cap) : Sem Value).run P w') = _
            have hsh : World.shape? { w with drawn := w.drawn + 1, heap := w.heap.push (.cells c e) } w.heap.size = some (e, c.size) := by simp [World.shape?]
            rw [hsh]
            simp only [run_freeze, Result.andThen_ok, Sem.run_pure, World.freeze, Nat.one_ne_zero, if_false]
            congr 1
            congr 1
            apply Array.ext_getElem?
            intro i
            rw [Array.getElem?_modify]
            by_cases hi : w.heap.size = i
            · subst hi; simp [hcs]
            · rw [if_neg hi]; simp [Array.getElem?_push, Ne.symm hi]
          have hadd : Add w { w with drawn := w.drawn + 1, heap := w.heap.push (.cells c e (cap, cap + 1)) } (.cells c e (cap, cap + 1)) := (Add.push w _).drew _
          refine ⟨_, _, _, hrun, made_ok hp hadd (fun o ho => by
            rw [hcs] at ho
            show (decide (cap ≤ o) && decide (o < cap + 1)) = false
            rw [decide_eq_false (by omega)]
            rfl) (by rw [hcs, bytesA, List.length_map]; omega) (fun i a ha => ?_), ?_⟩
          · obtain ⟨v, hv, hR⟩ := hbl.aget ha
            refine ⟨v, ?_, hR⟩
            show ((ba.data.map fun (b : UInt8) => Value.int .u8 b.toNat) ++ Array.replicate (cap - ba.size) (Value.int .u8 0))[i]? = some v
            rw [Array.getElem?_append_left (Array.getElem?_eq_some_iff.1 hv).1]
            exact hv
          · rw [hsize]
            exact .slice s.n 0 l.length l.length 1 _ _ _ (Env.add_self _ _) (Nat.le_refl _) (by omega) (.inr ⟨rfl, by show 0 + cap * 1 ≤ c.size; omega⟩)
      · cases h
    · cases h
  · cases h
end
end Go.Proofs.YtjikgmbhnknojaaGreatDoor.Rk

/- What the reckoner's append says of the model's. Plain lemmas. -/
namespace Go.Proofs.YtjikgmbhnknojaaGreatDoor.Rk
open Go
set_option linter.unusedVariables false
section
variable {P : Program} {ρ : Env} {T : Nat → Nat → Prop} {s s' : St} {w w' : World}
theorem newA_mono {e : TypeId} {sz n : Nat} {y : AV} {cs : List AV} {s1 : St} (h : newA e sz y s = some (n, cs, s1)) : Mono s s1 ∧ s1.heap = s.heap ∧ s1.n = s.n := by
  unfold newA at h
  split at h
  · cases h; exact ⟨Mono.refl _, rfl, rfl⟩
  · split at h
    · cases h; exact ⟨Mono.refl _, rfl, rfl⟩
    · cases h
  · split at h
    · split at h
      · rename_i hr
        obtain ⟨h1, h2⟩ := rd_mono hr
        cases h
        exact ⟨h2, by rw [h1]; rfl, by rw [h1]; rfl⟩
      · cases h
    · cases h
  · cases h
theorem cell_heap {w w1 : World} (h : w1.heap = w.heap) (a : Addr) : w1.cell? a = w.cell? a := by unfold World.cell?; rw [h]
theorem extract_all (ba : ByteArray) : ba.extract 0 ba.size = ba := by
  apply ByteArray.ext
  rw [ByteArray.data_extract]
  show ba.data.extract 0 ba.data.size = ba.data
  simp
theorem newA_ok {e : TypeId} {sz n : Nat} {y : AV} {y' : Value} {cs : List AV} {s1 : St} (h : newA e sz y s = some (n, cs, s1)) (hp : Pre ρ T s s1 w) (hy : VR ρ y y') :
    ∃ vs : List Value, VRL ρ cs vs ∧ vs.length = n * sz ∧ (∀ w1, (Builtin.lenOf y').run P w1 = .ok n w1) ∧ ∀ w1 : World, w1.heap = w.heap → (Builtin.firstCells sz n y').run P w1 = .ok vs.toArray w1 := by
  unfold newA at h
  split at h
  · cases h
    cases hy
    exact ⟨[], .nil, by simp, fun _ => rfl, fun _ _ => rfl⟩
  · rename_i l
    split at h
    · rename_i hsz
      cases h
      cases hy with
      | str _ hl =>
        have hb := bytes_get (ρ := ρ) l hl
        have hsize : (⟨(l.map UInt8.ofNat).toArray⟩ : ByteArray).size = l.length := by simp [ByteArray.size]
        refine ⟨_, hb, ?_, fun w1 => ?_, fun w1 _ => ?_⟩
        · rw [hsz, Nat.mul_one, hb.length, bytesA, List.length_map]
        · simp [Builtin.lenOf, hsize]
        · show (Pure.pure (((⟨(l.map UInt8.ofNat).toArray⟩ : ByteArray).extract 0 l.length).data.map fun (b : UInt8) => Value.int .u8 b.toNat) : Sem (Array Value)).run P w1 = _
          rw [← hsize, extract_all, Sem.run_pure, Array.toArray_toList]
    · cases h
  · rename_i b off len mc es
    split at h
    · rename_i hes
      split at h
      · rename_i cs1 s2 hr
        cases h
        cases hy with
        | slice _ _ _ _ _ r ad cap hb h1 h2 h3 =>
          obtain ⟨vs, g1, g2, g3⟩ := rd_ok hr hp hb
          refine ⟨vs, g2, g1, fun w1 => rfl, fun w1 hw => ?_⟩
          unfold Builtin.firstCells
          rw [← g1]
          refine run_cells (fun j v hv => ?_)
          rw [cell_heap hw]
          by_cases h0 : cap = 0
          · have : n = 0 := by omega
            subst this
            simp at g1
            subst g1
            simp at hv
          · rw [(h3.resolve_left h0).1]
            exact g3 j v hv
      · cases h
    · cases h
  · cases h
theorem run_append_room_ {t u ty e : TypeId} {i : TypeInfo} (hu : P.underlying t = some (.slice e)) (hi : P.info? e = some i) (hun : (∃ e', P.underlying u = some (.slice e')) ∨ P.underlying u = some .string) {base : Option Addr} {sLen sCap n : Nat} {y' : Value} {news : List Value}
    (hl : ∀ w1, (Builtin.lenOf y').run P w1 = .ok n w1) (hf : ∀ w1 : World, w1.heap = w.heap → (Builtin.firstCells i.size n y').run P w1 = .ok news.toArray w1) (hr : sLen + n ≤ sCap) :
    (Builtin.append_ #[t, u] ty #[.slice base sLen sCap, y']).run P w = match base with
      | some a => (match (storeCells (a.add (sLen * i.size)) news).run P w with
        | .ok _ w' => .ok (.slice base (sLen + n) sCap) w'
        | .halt h w' => .halt h w')
      | none => .ok (.slice base (sLen + n) sCap) w := by
  have hsz : (sizeOf e).run P w = .ok i.size w := run_szOf (by simp [szOf, hi]) w
  rcases hun with ⟨e', hd⟩ | hd
  all_goals
    unfold Builtin.append_
    simp only [List.getElem?_toArray, List.getElem?_cons_zero, List.getElem?_cons_succ, Sem.run_bind, Sem.run_pure, run_underlying hu, run_underlying hd, Result.andThen_ok, hsz, Bool.false_eq_true, if_false, hl, Sem.run_ite, if_pos hr, Bool.not_false, if_true, hf w rfl]
    cases base with
    | none => simp
    | some a =>
      simp only [Sem.run_bind]
      cases (storeCells (a.add (sLen * i.size)) news).run P w <;> simp
theorem run_append_more {t u ty e : TypeId} {i : TypeInfo} {z : Value} (hu : P.underlying t = some (.slice e)) (hi : P.info? e = some i) (hzi : i.zero = some z) (hun : (∃ e', P.underlying u = some (.slice e')) ∨ P.underlying u = some .string) {base : Option Addr} {sLen sCap n : Nat} {y' : Value} {news olds : List Value}
    (hl : ∀ w1, (Builtin.lenOf y').run P w1 = .ok n w1) (hf : ∀ w1 : World, w1.heap = w.heap → (Builtin.firstCells i.size n y').run P w1 = .ok news.toArray w1) (ho : ∀ w1 : World, w1.heap = w.heap → (Builtin.firstCells i.size sLen (.slice base sLen sCap)).run P w1 = .ok olds.toArray w1)
    (hr : sCap < sLen + n) (hn : sLen + n < 2000000) (hb : i.bytes ≤ 100000) :
    ∃ cap, sLen + n ≤ cap ∧ (Builtin.append_ #[t, u] ty #[.slice base sLen sCap, y']).run P w = .ok (.slice (some ⟨w.heap.size, 0, none⟩) (sLen + n) cap) { w with drawn := w.drawn + 1, heap := w.heap.push (.cells (olds.toArray ++ news.toArray ++ Builtin.zeroCells z.cells (cap - (sLen + n))) e) } := by
  have hsz : (sizeOf e).run P w = .ok i.size w := run_szOf (by simp [szOf, hi]) w
  have h63 : ¬ (((sLen + n : Nat) : Int) > IntKind.i64.max ∧ (False ∨ i.bytes = 0)) := by
    have : IntKind.i64.max = 9223372036854775807 := by decide
    rw [this]
    omega
  have h63' : ¬ (((sLen + n : Nat) : Int) > IntKind.i64.max) := by
    have : IntKind.i64.max = 9223372036854775807 := by decide
    rw [this]
    omega
  have hns : Builtin.nextslicecap (sLen + n) sCap * i.bytes ≤ 400000000000 := by
    have h1 := Go.Room.nextslicecap_le' hr
    have h2 : Builtin.nextslicecap (sLen + n) sCap * i.bytes ≤ 4000000 * 100000 := Nat.mul_le_mul (by omega) hb
    omega
  have h48 : ¬ (Builtin.nextslicecap (sLen + n) sCap * i.bytes > 2 ^ 48) := by omega
  have hforced : (Question.appendCap (sLen + n) sCap e).forced = false := rfl
  have hzv : ∀ w1, (zeroValue e).run P w1 = .ok z w1 := fun w1 => by simp [zeroValue, run_info hi, hzi]
  refine ⟨(Question.appendCap (sLen + n) sCap e).cut (w.tape w.drawn (.appendCap (sLen + n) sCap e)), Nat.le_add_right _ _, ?_⟩
  rcases hun with ⟨e', hd⟩ | hd
  all_goals
    unfold Builtin.append_
    simp only [List.getElem?_toArray, List.getElem?_cons_zero, List.getElem?_cons_succ, Sem.run_bind, run_underlying hu, run_underlying hd, Result.andThen_ok, hsz, Bool.false_eq_true, if_false, hl, Sem.run_ite, if_neg (Nat.not_le.2 hr), Bool.not_false, if_true, run_info hi, h63', false_and, if_neg h48, run_choose, hforced, run_askRoom, ho { w with drawn := w.drawn + 1 } rfl, hf { w with drawn := w.drawn + 1 } rfl, hzv, run_row, Sem.run_pure]
theorem bAppend_mono {t : TypeId} {x y v : AV} (hwf : WfS s) (h : bAppend P t x y s = some (v, s')) : Mono s s' := by
  unfold bAppend at h
  split at h
  · split at h
    · split at h
      · cases h
      · rename_i n cs s1 hn
        obtain ⟨m1, m2, m3⟩ := newA_mono hn
        split at h
        · split at h
          · split at h
            · cases h; exact m1
            · cases h; exact m1.trans (Mono.new _ _)
          · split at h
            · cases h; exact m1
            · split at h
              · rename_i hb
                split at h
                · split at h
                  · split at h
                    · cases h
                      exact m1.trans (Mono.put_note _ _ _ ⟨_, hb, trivial⟩)
                    · cases h
                  · split at h
                    · cases h
                      exact (m1.trans (Mono.put_note _ _ .dead ⟨_, hb, trivial⟩)).trans (Mono.new _ _)
                    · cases h
                · cases h
              · cases h
          · cases h
        · cases h
    · cases h
  · cases h
theorem repL_top (n i : Nat) (a : AV) (h : (repL [.top] n)[i]? = some a) : a = .top := by
  have hi : i < n := by
    have := (List.getElem?_eq_some_iff.1 h).1
    rw [repL_len] at this
    simpa using this
  rw [repL_get [.top] n i (by simpa using hi)] at h
  simp [Nat.mod_one] at h
  exact h.symm
theorem repL_top_len (n : Nat) : (repL [.top] n).length = n := by rw [repL_len]; simp
theorem OK1.after {m : Sem Value} {v : AV} {s1 : St} (m1 : Mono s s1) (m2 : Mono s1 s') (h : Post ρ T s w ρ s1 w) (k : OK1 P m ρ (Tn T s.n s1.n) s1 w v s') : OK1 P m ρ T s w v s' := by
  obtain ⟨ρ', w', v', h1, h2, h3⟩ := k
  exact ⟨ρ', w', v', h1, h.trans m1 m2 h2, h3⟩
section
variable {t u ty e : TypeId} {i : TypeInfo} {z : Value} {n : Nat} {cs : List AV} {vs : List Value} {y' : Value}
  (hu : P.underlying t = some (.slice e)) (hi : P.info? e = some i) (hzi : i.zero = some z) (hzs : z.cells.size = i.size) (hun : (∃ e', P.underlying u = some (.slice e')) ∨ P.underlying u = some .string)
  (g1 : VRL ρ cs vs) (g2 : vs.length = n * i.size) (g3 : ∀ w1, (Builtin.lenOf y').run P w1 = .ok n w1) (g4 : ∀ w1 : World, w1.heap = w.heap → (Builtin.firstCells i.size n y').run P w1 = .ok vs.toArray w1)
  (c1 : cs.all one = true) (c2 : i.bytes ≤ 100000) (c3 : 0 < i.size) (c4 : n < 1000000) (h0 : 0 < n)
include hu hi hzi hzs hun g1 g2 g3 g4 c1 c2 c3 c4 h0
theorem app_nil (hp : Pre ρ T s (s.new (.cells (2 * e) cs)) w) : OK1 P (Builtin.append_ #[t, u] ty #[.slice none 0 0, y']) ρ T s w (.slice s.n 0 n n i.size) (s.new (.cells (2 * e) cs)) := by
  have _all := (⟨hzi, hzs, c1, c2, c3, c4⟩ : _ ∧ _ ∧ _ ∧ _ ∧ _ ∧ _)
  obtain ⟨cap, k1, k2⟩ := run_append_more (ty := ty) (base := none) (sLen := 0) (sCap := 0) (olds := []) hu hi hzi hun g3 g4 (fun _ _ => rfl) (by omega) (by omega) c2
  have hsz := g1.length
  rw [Nat.zero_add] at k2 k1
  have hcz : ((([] : List Value).toArray ++ vs.toArray) ++ Builtin.zeroCells z.cells (cap - n)).size = cap * i.size := by
    have : (Builtin.zeroCells z.cells (cap - n)).size = (cap - n) * z.cells.size := by simp [Builtin.zeroCells]
    rw [Array.size_append, Array.size_append, this, hzs]
    simp only [List.size_toArray, List.length_nil, Nat.zero_add, g2]
    rw [← Nat.add_mul]
    congr 1
    omega
  refine ⟨_, _, _, k2, made_ok hp ((Add.push w _).drew _) (fun o _ => by simp) ?_ (fun j a ha => ?_), ?_⟩
  · rw [hcz, ← hsz, g2]
    exact Nat.mul_le_mul_right _ k1
  · obtain ⟨u', hu', hR⟩ := g1.get j ha
    refine ⟨u', ?_, hR⟩
    have hj : j < vs.length := (List.getElem?_eq_some_iff.1 hu').1
    rw [Array.getElem?_append_left (by simp; exact hj)]
    simpa using hu'
  · refine .slice s.n 0 n n i.size _ _ _ (Env.add_self _ _) (Nat.le_refl _) k1 (.inr ⟨rfl, ?_⟩)
    show 0 + cap * i.size ≤ ((([] : List Value).toArray ++ vs.toArray) ++ Builtin.zeroCells z.cells (cap - n)).size
    rw [hcz]
    omega
theorem app_in {b off len mc cap : Nat} {r : RB} {cs0 cs1 : List AV} {t0 : TypeId} (hbg : s.heap.get b = some (.cells t0 cs0)) (hset : setL (cs0 ++ repL [.top] (off + (len + n) * i.size - cs0.length)) (off + len * i.size) cs = some cs1)
    (hp : Pre ρ T s ((s.put b (.cells t0 cs1)).note (.all b)) w) (hb : ρ b = some r) (k1 : len + n ≤ mc) (k2 : mc ≤ cap) (hfit : off + cap * i.size ≤ r.n) :
    OK1 P (Builtin.append_ #[t, u] ty #[.slice (some (r.at off)) len cap, y']) ρ T s w (.slice b off (len + n) mc i.size) ((s.put b (.cells t0 cs1)).note (.all b)) := by
  have _all := (⟨hzi, hzs, c1, c2, c3, c4⟩ : _ ∧ _ ∧ _ ∧ _ ∧ _ ∧ _)
  have hT : ∀ i, T b i := fun i => hp.cov (.all b) (List.mem_cons_self ..) (lt_n hp.wf hbg) b i rfl
  obtain ⟨r0, c, fr, q1, q2, q3, q4, q5, q6⟩ := hp.good.sat b _ hbg ⟨0, hT 0⟩
  have : r0 = r := Option.some.inj (q1.symm.trans hb)
  subst this
  have qf := q4
  replace q4 := q4.1
  obtain ⟨z1, z2, z3⟩ := setL_ok hset
  have hlen := g1.length
  have hle : (len + n) * i.size ≤ cap * i.size := Nat.mul_le_mul_right _ (by omega)
  have hadd : (len + n) * i.size = len * i.size + n * i.size := Nat.add_mul _ _ _
  have hpos : 0 < n * i.size := Nat.mul_pos h0 c3
  have hcslen : cs.length = n * i.size := by omega
  obtain ⟨c', w2, f1, f2, f3, f4, f5, f6, f7, f8, f9⟩ := run_stores (P := P) (o := r0.base + off + len * i.size) vs 0 c w q2 (g1.ones c1) (by omega) (fun j h4 h5 => q5 j (by omega) h5)
  have hrun := run_append_room_ (w := w) (ty := ty) (base := some (r0.at off)) (sLen := len) (sCap := cap) hu hi hun g3 g4 (by omega)
  have hat : (r0.at off).add (len * i.size) = ⟨r0.blk, r0.base + off + len * i.size, none⟩ := by rw [RB.at_add]; unfold RB.at; rw [Nat.add_assoc]
  simp only [hat, f1] at hrun
  refine ⟨ρ, w2, _, hrun, Post.alt hp.good hbg trivial ⟨0, hT 0⟩ hb ⟨f7, f8, f9, f6, f2, f5⟩ ⟨r0, c', fr, hb, f2, by rw [f3]; exact q3, ?_, fun o h1 h2 => q5 o h1 (by rw [← f3]; exact h2), fun j a ha _ => ?_⟩, .slice b off (len + n) mc i.size r0 (r0.at off) cap hb k1 k2 (.inr ⟨rfl, hfit⟩)⟩
  · rw [z1, List.length_append, repL_top_len]
    refine ⟨by omega, fun hx => ?_⟩
    obtain ⟨y1, y2⟩ := qf.2 hx
    exact ⟨y1, by omega⟩
  · rw [z2] at ha
    by_cases hj : off + len * i.size ≤ j ∧ j < off + len * i.size + cs.length
    · rw [if_pos hj] at ha
      rw [f4, if_pos (by omega), show r0.base + j - (r0.base + off + len * i.size + 0) = j - (off + len * i.size) by omega]
      exact g1.get _ ha
    · rw [if_neg hj] at ha
      rw [f4, if_neg (by omega)]
      by_cases hj0 : j < cs0.length
      · rw [List.getElem?_append_left hj0] at ha
        exact q6 j a ha (hT j)
      · rw [List.getElem?_append_right (by omega)] at ha
        have htop := repL_top _ _ a ha
        have hjl := (List.getElem?_eq_some_iff.1 ha).1
        rw [repL_top_len] at hjl
        subst htop
        exact ⟨_, Array.getElem?_eq_getElem (by omega), .top _⟩
theorem app_adopt {b off len cap : Nat} {r : RB} {cs0 : List AV} (hbg : s.heap.get b = some (.cells (2 * e) cs0)) (htop : off + len * i.size = cs0.length)
    (hp : Pre ρ T s (((s.put b .dead).note (.all b)).new (.cells (2 * e) (cs0.drop off ++ cs))) w) (hb : ρ b = some r) (hcap : len + n ≤ cap) (hfit : off + cap * i.size ≤ r.n) :
    OK1 P (Builtin.append_ #[t, u] ty #[.slice (some (r.at off)) len cap, y']) ρ T s w (.slice s.n 0 (len + n) (len + n) i.size) (((s.put b .dead).note (.all b)).new (.cells (2 * e) (cs0.drop off ++ cs))) := by
  have _all := (⟨hzi, hzs, c1, c2, c3, c4⟩ : _ ∧ _ ∧ _ ∧ _ ∧ _ ∧ _)
  have hbn := lt_n hp.wf hbg
  have hT : ∀ i, T b i := fun i => hp.cov (.all b) (List.mem_cons_self ..) hbn b i rfl
  obtain ⟨r0, c, fr, q1, q2, q3, q4, q5, q6⟩ := hp.good.sat b _ hbg ⟨0, hT 0⟩
  have : r0 = r := Option.some.inj (q1.symm.trans hb)
  subst this
  have qf := q4
  replace q4 := q4.1
  have hlen := g1.length
  have hadd : (len + n) * i.size = len * i.size + n * i.size := Nat.add_mul _ _ _
  have hpos : 0 < n * i.size := Nat.mul_pos h0 c3
  have hcslen : cs.length = n * i.size := by omega
  have hfr : ρ s.n = none := hp.fresh s.n (Nat.le_refl _) (Nat.lt_succ_self _)
  have hle : (len + n) * i.size ≤ cap * i.size := Nat.mul_le_mul_right _ hcap
  obtain ⟨c', w2, f1, f2, f3, f4, f5, f6, f7, f8, f9⟩ := run_stores (P := P) (o := r0.base + off + len * i.size) vs 0 c w q2 (g1.ones c1) (by omega) (fun j h4 h5 => q5 j (by omega) h5)
  have hrun := run_append_room_ (w := w) (ty := ty) (base := some (r0.at off)) (sLen := len) (sCap := cap) hu hi hun g3 g4 hcap
  have hat : (r0.at off).add (len * i.size) = ⟨r0.blk, r0.base + off + len * i.size, none⟩ := by rw [RB.at_add]; unfold RB.at; rw [Nat.add_assoc]
  simp only [hat, f1] at hrun
  have hBR : BR (ρ.add s.n ⟨r0.blk, r0.base + off, r0.n - off⟩) (fun _ => True) s.n w2 (.cells (2 * e) (cs0.drop off ++ cs)) := by
    refine ⟨⟨r0.blk, r0.base + off, r0.n - off⟩, c', fr, Env.add_self _ _, f2, ?_, ?_, fun o h1 h2 => ?_, fun j a ha _ => ?_⟩
    · show c'.size = r0.base + off + (r0.n - off)
      omega
    · refine Fits.even e ?_
      show (cs0.drop off ++ cs).length ≤ r0.n - off
      rw [List.length_append, List.length_drop]
      omega
    · have h3 : r0.base + off ≤ o := h1
      exact q5 o (by omega) (by rw [← f3]; exact h2)
    · show ∃ v, c'[r0.base + off + j]? = some v ∧ VR (ρ.add s.n ⟨r0.blk, r0.base + off, r0.n - off⟩) a v
      by_cases hj : j < (cs0.drop off).length
      · rw [List.getElem?_append_left hj, List.getElem?_drop] at ha
        rw [List.length_drop] at hj
        rw [f4, if_neg (by omega), Nat.add_assoc]
        obtain ⟨u', hu', hR⟩ := q6 (off + j) a ha (hT _)
        exact ⟨u', hu', hR.mono (Env.add_le hfr)⟩
      · rw [List.getElem?_append_right (by omega)] at ha
        rw [List.length_drop] at hj ha
        have hjl := (List.getElem?_eq_some_iff.1 ha).1
        rw [f4, if_pos (by omega), show r0.base + off + j - (r0.base + off + len * i.size + 0) = j - (cs0.length - off) by omega]
        obtain ⟨u', hu', hR⟩ := g1.get _ ha
        exact ⟨u', hu', hR.mono (Env.add_le hfr)⟩
  refine ⟨ρ.add s.n ⟨r0.blk, r0.base + off, r0.n - off⟩, w2, _, hrun, Post.adopt hp.good hp.wf hfr hbg trivial ⟨0, hT 0⟩ hb ⟨f7, f8, f9, f6, f2, f5⟩ rfl hbn hBR, .slice s.n 0 (len + n) (len + n) i.size ⟨r0.blk, r0.base + off, r0.n - off⟩ (r0.at off) cap (Env.add_self _ _) (Nat.le_refl _) hcap (.inr ⟨rfl, ?_⟩)⟩
  show 0 + cap * i.size ≤ r0.n - off
  omega
theorem app_more {b off len cap : Nat} {r : RB} {ad : Addr} {cs0 : List AV} (hbg : s.heap.get b = some (.cells (2 * e) cs0)) (htop : off + len * i.size = cs0.length)
    (hp : Pre ρ T s (((s.put b .dead).note (.all b)).new (.cells (2 * e) (cs0.drop off ++ cs))) w) (hb : ρ b = some r) (hl : len < 1000000) (hlc : len ≤ cap) (hcap : cap < len + n) (k3 : cap = 0 ∨ ad = r.at off ∧ off + cap * i.size ≤ r.n) :
    OK1 P (Builtin.append_ #[t, u] ty #[.slice (some ad) len cap, y']) ρ T s w (.slice s.n 0 (len + n) (len + n) i.size) (((s.put b .dead).note (.all b)).new (.cells (2 * e) (cs0.drop off ++ cs))) := by
  have _all := (⟨hzi, hzs, c1, c2, c3, c4⟩ : _ ∧ _ ∧ _ ∧ _ ∧ _ ∧ _)
  have hbn := lt_n hp.wf hbg
  have hT : ∀ i, T b i := fun i => hp.cov (.all b) (List.mem_cons_self ..) hbn b i rfl
  obtain ⟨r0, c, fr, q1, q2, q3, q4, q5, q6⟩ := hp.good.sat b _ hbg ⟨0, hT 0⟩
  have : r0 = r := Option.some.inj (q1.symm.trans hb)
  subst this
  have qf := q4
  replace q4 := q4.1
  have hlen := g1.length
  have hadd : (len + n) * i.size = len * i.size + n * i.size := Nat.add_mul _ _ _
  have hmk : Mono s ((s.put b .dead).note (.all b)) := Mono.put_note _ _ _ ⟨_, hbg, trivial⟩
  have hd : (cs0.drop off).length = len * i.size := by rw [List.length_drop]; omega
  have holds : ∃ os : List Value, os.length = len * i.size ∧ VRL ρ (cs0.drop off) os ∧ ∀ w1 : World, w1.heap = w.heap → (Builtin.firstCells i.size len (.slice (some ad) len cap)).run P w1 = .ok os.toArray w1 := by
    by_cases hl0 : len = 0
    · subst hl0
      have : cs0.drop off = [] := List.length_eq_zero_iff.1 (by omega)
      rw [this]
      refine ⟨[], by simp, .nil, fun w1 _ => ?_⟩
      simp [Builtin.firstCells, loadCells, loadCellsFrom]
    · obtain ⟨had, hfit⟩ := k3.resolve_left (by omega)
      have hl2 : ((c.toList.drop (r0.base + off)).take (len * i.size)).length = len * i.size := by rw [List.length_take, List.length_drop, Array.length_toList]; omega
      refine ⟨(c.toList.drop (r0.base + off)).take (len * i.size), hl2, VRL.of_get (by omega) (fun j a v ha hv => ?_), fun w1 hw1 => ?_⟩
      · have hj : j < len * i.size := by
          have := (List.getElem?_eq_some_iff.1 ha).1
          omega
        rw [List.getElem?_take_of_lt hj, List.getElem?_drop, Array.getElem?_toList] at hv
        rw [List.getElem?_drop] at ha
        obtain ⟨u', hu', hR⟩ := q6 (off + j) a ha (hT _)
        rw [← Nat.add_assoc, hv] at hu'
        cases hu'
        exact hR
      · have hrc := run_cells (P := P) (w := w1) (a := ad) (vs := (c.toList.drop (r0.base + off)).take (len * i.size)) (fun j v hv => ?_)
        · rw [hl2] at hrc
          exact hrc
        have hj : j < len * i.size := by
          have := (List.getElem?_eq_some_iff.1 hv).1
          omega
        rw [List.getElem?_take_of_lt hj, List.getElem?_drop, Array.getElem?_toList] at hv
        rw [cell_heap hw1, had, RB.at_add]
        unfold RB.at
        rw [cell_in q2, ← Nat.add_assoc]
        exact hv
  obtain ⟨os, o1, o2, o3⟩ := holds
  obtain ⟨cap2, m3, m4⟩ := run_append_more (ty := ty) (base := some ad) (sLen := len) (sCap := cap) (olds := os) hu hi hzi hun g3 g4 o3 (by omega) (by omega) c2
  have hkill := Post.kill hp.good hbg trivial (Still.refl w)
  have hpre3 := hp.next hmk (Mono.new _ (.cells (2 * e) (cs0.drop off ++ cs))) hkill
  have hcz : ((os.toArray ++ vs.toArray) ++ Builtin.zeroCells z.cells (cap2 - (len + n))).size = cap2 * i.size := by
    have : (Builtin.zeroCells z.cells (cap2 - (len + n))).size = (cap2 - (len + n)) * z.cells.size := by simp [Builtin.zeroCells]
    rw [Array.size_append, Array.size_append, this, hzs]
    simp only [List.size_toArray, o1, g2]
    rw [← Nat.add_mul, ← Nat.add_mul]
    congr 1
    omega
  have hos := o2.append g1
  have hosl := hos.length
  refine ⟨_, _, _, m4, hkill.trans hmk (Mono.new _ _) (made_ok hpre3 ((Add.push w _).drew _) (fun o _ => by simp) ?_ (fun j a ha => ?_)), ?_⟩
  · rw [hcz, ← hosl, List.length_append, o1, g2, ← Nat.add_mul]
    exact Nat.mul_le_mul_right _ m3
  · obtain ⟨u', hu', hR⟩ := hos.get j ha
    refine ⟨u', ?_, hR⟩
    have hj : j < (os ++ vs).length := (List.getElem?_eq_some_iff.1 hu').1
    rw [Array.getElem?_append_left (by simpa using hj)]
    simpa using hu'
  · refine .slice s.n 0 (len + n) (len + n) i.size _ _ _ (Env.add_self _ _) (Nat.le_refl _) m3 (.inr ⟨rfl, ?_⟩)
    show 0 + cap2 * i.size ≤ ((os.toArray ++ vs.toArray) ++ Builtin.zeroCells z.cells (cap2 - (len + n))).size
    rw [hcz]
    omega
end
theorem bAppend_ok {t u ty : TypeId} {x y v : AV} {x' y' : Value} (h : bAppend P t x y s = some (v, s')) (hun : (∃ e', P.underlying u = some (.slice e')) ∨ P.underlying u = some .string) (hp : Pre ρ T s s' w) (hx : VR ρ x x') (hy : VR ρ y y') : OK1 P (Builtin.append_ #[t, u] ty #[x', y']) ρ T s w v s' := by
  unfold bAppend at h
  split at h
  · rename_i e hu
    split at h
    · rename_i i hi
      split at h
      · cases h
      · rename_i n cs s1 hn
        obtain ⟨m1, hs1, hn1⟩ := newA_mono hn
        split at h
        · rename_i hcond
          simp only [Bool.and_eq_true, decide_eq_true_eq] at hcond
          obtain ⟨⟨⟨⟨c1, c2⟩, c3⟩, c4⟩, c5⟩ := hcond
          have hz5 : ∃ z, i.zero = some z ∧ z.cells.size = i.size := by
            unfold zOk at c5
            split at c5
            · rename_i zl hzl
              obtain ⟨zv, hz1, hz2⟩ := zeroC_info (ρ := ρ) hzl hi
              have := hz2.size
              have h6 := of_decide_eq_true c5
              exact ⟨zv, hz1, by omega⟩
            · cases c5
          obtain ⟨z, hzi, hzs⟩ := hz5
          have key : Mono s1 s' → ∃ vs : List Value, VRL ρ cs vs ∧ vs.length = n * i.size ∧ (∀ w1, (Builtin.lenOf y').run P w1 = .ok n w1) ∧ ∀ w1 : World, w1.heap = w.heap → (Builtin.firstCells i.size n y').run P w1 = .ok vs.toArray w1 := fun m2 => newA_ok hn (hp.first m2) hy
          have hpost : Post ρ T s w ρ s1 w := Post.same hp.good hs1 hn1 (Still.refl w)
          split at h
          · cases hx
            split at h
            · rename_i h0
              cases h
              obtain ⟨vs, g1, g2, g3, g4⟩ := key (Mono.refl _)
              subst h0
              have hr := run_append_room_ (ty := ty) (base := none) (sLen := 0) (sCap := 0) hu hi hun g3 g4 (Nat.le_refl _)
              exact ⟨ρ, w, _, hr, hpost, .nils⟩
            · rename_i h0
              cases h
              obtain ⟨vs, g1, g2, g3, g4⟩ := key (Mono.new _ _)
              exact (app_nil hu hi hzi hzs hun g1 g2 g3 g4 c1 c2 c3 c4 (by omega) (hp.next m1 (Mono.new _ _) hpost)).after m1 (Mono.new _ _) hpost
          · rename_i b off len mc es
            cases hx with
            | slice _ _ _ _ _ r ad cap hb k1 k2 k3 =>
            split at h
            · rename_i h0
              cases h
              obtain ⟨vs, g1, g2, g3, g4⟩ := key (Mono.refl _)
              subst h0
              have hvs : vs = [] := List.length_eq_zero_iff.1 (by omega)
              subst hvs
              have hr := run_append_room_ (w := w) (ty := ty) (base := some ad) (sLen := len) (sCap := cap) hu hi hun g3 g4 (by omega)
              exact ⟨ρ, w, _, hr, hpost, .slice b off len mc es r ad cap hb k1 k2 k3⟩
            · rename_i h0
              split at h
              · rename_i t0 cs0 hbg
                split at h
                · rename_i hc
                  obtain ⟨hc1, hc2, hc3⟩ := hc
                  subst hc2
                  subst hc1
                  split at h
                  · rename_i hroom
                    split at h
                    · rename_i cs1 hset
                      cases h
                      have hm2 : Mono s1 ((s1.put b (.cells (2 * e) cs1)).note (.all b)) := Mono.put_note _ _ _ ⟨_, hbg, trivial⟩
                      obtain ⟨vs, g1, g2, g3, g4⟩ := key hm2
                      obtain ⟨had, hfit⟩ := k3.resolve_left (by omega)
                      subst had
                      exact (app_in hu hi hzi hzs hun g1 g2 g3 g4 c1 c2 c3 c4 (by omega) hbg hset (hp.next m1 hm2 hpost) hb hroom k2 hfit).after m1 hm2 hpost
                    · cases h
                  · rename_i hroom
                    split at h
                    · rename_i htop
                      cases h
                      have hm2 : Mono s1 (((s1.put b .dead).note (.all b)).new (.cells (2 * e) (cs0.drop off ++ cs))) := (Mono.put_note _ _ .dead ⟨_, hbg, trivial⟩).trans (Mono.new _ _)
                      obtain ⟨vs, g1, g2, g3, g4⟩ := key hm2
                      by_cases hcap : len + n ≤ cap
                      · obtain ⟨had, hfit⟩ := k3.resolve_left (by omega)
                        subst had
                        exact (app_adopt hu hi hzi hzs hun g1 g2 g3 g4 c1 c2 c3 c4 (by omega) hbg htop (hp.next m1 hm2 hpost) hb hcap hfit).after m1 hm2 hpost
                      · exact (app_more hu hi hzi hzs hun g1 g2 g3 g4 c1 c2 c3 c4 (by omega) hbg htop (hp.next m1 hm2 hpost) hb hc3 (by omega) (by omega) k3).after m1 hm2 hpost
                    · cases h
                · cases h
              · cases h
          · cases h
        · cases h
    · cases h
  · cases h
end
end Go.Proofs.YtjikgmbhnknojaaGreatDoor.Rk

/- What the reckoner's other operations say of the model's. Plain lemmas. -/
namespace Go.Proofs.YtjikgmbhnknojaaGreatDoor.Rk
open Go
set_option linter.unusedVariables false
section
variable {P : Program} {ρ : Env} {T : Nat → Nat → Prop} {s s' : St} {w w' : World}
theorem opBuild_ok {t : TypeId} {ps : List (Nat × AV)} {ps' : Array (Nat × Value)} {v : AV} (h : opBuild P t ps = some v) (hx : PR ρ ps ps'.toList) : ∃ v', (Instr.build t ps').run P w = .ok v' w ∧ VR ρ v v' := by
  unfold opBuild at h
  have key : ∀ z, zeroC P t = some z → ∃ it zv, P.info? t = some it ∧ it.zero = some zv ∧ VRL ρ z zv.cells.toList := by
    intro z hz
    cases hit : P.info? t with
    | none => unfold zeroC zeroA at hz; rw [hit] at hz; simp at hz
    | some it =>
      obtain ⟨zv, h1, h2⟩ := zeroC_info (ρ := ρ) hz hit
      exact ⟨it, zv, rfl, h1, h2⟩
  split at h
  · rename_i z fs hz hu
    obtain ⟨it, zv, h1, h2, h3⟩ := key z hz
    split at h
    · rename_i places hpl
      split at h
      · rename_i cs hf
        cases h
        obtain ⟨r', h4, h5⟩ := fill_ok hf hx h3
        refine ⟨.agg r', run_build w t ps' r' ?_, .agg _ _ h5⟩
        unfold Program.built
        simp only [h1, hu, h2, hpl]
        simpa using h4
      · cases h
    · cases h
  · rename_i z len e hz hu
    obtain ⟨it, zv, h1, h2, h3⟩ := key z hz
    split at h
    · rename_i i hi
      split at h
      · rename_i cs hf
        cases h
        obtain ⟨r', h4, h5⟩ := fill_ok hf hx h3
        refine ⟨.agg r', run_build w t ps' r' ?_, .agg _ _ h5⟩
        unfold Program.built
        simp only [h1, hu, h2, hi]
        exact h4
      · cases h
    · cases h
  · cases h
theorem str_size (l : List Nat) : (⟨(l.map UInt8.ofNat).toArray⟩ : ByteArray).size = l.length := by simp [ByteArray.size]
/-- A bound that may be left out. -/
inductive VRO (ρ : Env) : Option AV → Option Value → Prop
  | none : VRO ρ none none
  | some (a : AV) (v : Value) (h : VR ρ a v) : VRO ρ (some a) (some v)
theorem bound_ok {x : AV} {x' : Value} {k n y : Nat} {c : BoundsCode} (h : bnd (some x) n = some k) (hx : VR ρ x x') (hle : k ≤ y) : (Instr.sliceBound x' y c).run P w = .ok k w := by
  unfold bnd at h
  split at h
  · rename_i he; cases he
  · rename_i kk n he
    cases he
    cases h
    cases hx
    simp [Instr.sliceBound, asIntOf]
    omega
  · cases h
/-- The bounds of a slice. -/
theorem bounds_ok {lo hi : Option AV} {lo' hi' : Option Value} {b : Bool} {len cap k h : Nat} (hk : bnd lo 0 = some k) (hh : bnd hi len = some h) (hl : VRO ρ lo lo') (hr : VRO ρ hi hi') (h1 : k ≤ h) (h2 : h ≤ cap) : (Instr.sliceBounds b len cap lo' hi' none).run P w = .ok (k, h, cap) w := by
  unfold Instr.sliceBounds
  simp only [Sem.run_bind, Sem.run_pure, Result.andThen_ok]
  cases hr with
  | none =>
    cases hh
    simp only [Sem.run_bind, Sem.run_pure, Result.andThen_ok]
    cases hl with
    | none => cases hk; simp
    | some a v ha => simp [bound_ok (P := P) (w := w) hk ha h1]
  | some a v ha =>
    simp only [Sem.run_bind, bound_ok (P := P) (w := w) hh ha h2, Result.andThen_ok]
    cases hl with
    | none => cases hk; simp
    | some a v ha => simp [bound_ok (P := P) (w := w) hk ha h1]
theorem bnds_ok {lo hi : Option AV} {lo' hi' : Option Value} {b : Bool} {len c cap k h : Nat} (hb : bnds lo hi len c = some (k, h)) (hc : c ≤ cap) (hl : VRO ρ lo lo') (hr : VRO ρ hi hi') : (Instr.sliceBounds b len cap lo' hi' none).run P w = .ok (k, h, cap) w ∧ k ≤ h ∧ h ≤ c := by
  unfold bnds at hb
  split at hb
  · rename_i h' he
    split at hb
    · rename_i k' hk
      split at hb
      · rename_i hh
        cases hb
        exact ⟨bounds_ok hk he hl hr hh.1 (by omega), hh⟩
      · cases hb
    · cases hb
  · cases hb
theorem addr_if {a : Addr} {k m n : Nat} : (if m = k then a else a.add (k * n)) = (if m = k then a else a.add (k * n)) := rfl
theorem opSlice_ok {t : TypeId} {x : AV} {x' : Value} {lo hi mx : Option AV} {lo' hi' mx' : Option Value} {v : AV} (h : opSlice P t x lo hi mx = some v) (hx : VR ρ x x') (hl : VRO ρ lo lo') (hr : VRO ρ hi hi') (hm : VRO ρ mx mx') :
    ∃ v', (Instr.sliceAt t x' lo' hi' mx').run P w = .ok v' w ∧ VR ρ v v' := by
  unfold opSlice at h
  split at h
  · cases h
  · cases hm
    split at h
    · rename_i l hu
      split at h
      · rename_i k hh hb
        cases h
        cases hx with
        | str _ hlt =>
        obtain ⟨hb1, hb2, hb3⟩ := bnds_ok (P := P) (w := w) (b := false) hb (Nat.le_refl _) hl hr
        refine ⟨.string ((⟨(l.map UInt8.ofNat).toArray⟩ : ByteArray).extract k hh), ?_, ?_⟩
        · simp only [Instr.sliceAt, Instr.slice, Sem.run_bind, run_underlying hu, Result.andThen_ok, Option.isSome_none, Bool.false_eq_true, if_false, Sem.run_pure, str_size, hb1]
        · have e : (⟨(l.map UInt8.ofNat).toArray⟩ : ByteArray).extract k hh = ⟨(((l.take hh).drop k).map UInt8.ofNat).toArray⟩ := by
            apply ByteArray.ext
            rw [ByteArray.data_extract]
            apply Array.ext'
            simp only [Array.toList_extract, List.extract_eq_take_drop, List.map_drop, List.map_take]
            rw [List.drop_take]
          rw [e]
          exact .str _ (fun z hz => hlt z (List.mem_of_mem_take (List.mem_of_mem_drop hz)))
      · cases h
    · rename_i e hu
      split at h
      · rename_i kh n hb hs
        cases h
        cases hx
        obtain ⟨k, hh⟩ := kh
        obtain ⟨hb1, hb2, hb3⟩ := bnds_ok (P := P) (w := w) (b := true) hb (Nat.le_refl _) hl hr
        have hk0 : k = 0 := by omega
        have hh0 : hh = 0 := by omega
        subst hk0 hh0
        refine ⟨.slice none 0 0, ?_, .nils⟩
        simp [Instr.sliceAt, Instr.slice, run_underlying hu, hb1, run_szOf hs]
      · cases h
    · rename_i b off len mc es e hu
      split at h
      · rename_i k hh n hb hs
        split at h
        · rename_i hn
          cases h
          subst hn
          cases hx with
          | slice b off len mc es r ad cap hbr k1 k2 k3 =>
          obtain ⟨hb1, hb2, hb3⟩ := bnds_ok (P := P) (w := w) (b := true) hb k2 hl hr
          refine ⟨.slice (some (if cap = k then ad else ad.add (k * n))) (hh - k) (cap - k), ?_, ?_⟩
          · by_cases hck : cap = k
            · subst hck
              simp [Instr.sliceAt, Instr.slice, run_underlying hu, hb1, run_szOf hs]
            · simp [Instr.sliceAt, Instr.slice, run_underlying hu, hb1, run_szOf hs, hck]
          · by_cases hck : cap = k
            · rw [if_pos hck]
              exact .slice b _ _ _ n r ad _ hbr (by omega) (by omega) (.inl (by omega))
            · rw [if_neg hck]
              obtain ⟨had, hfit⟩ := k3.resolve_left (by omega)
              refine .slice b _ _ _ n r _ _ hbr (by omega) (by omega) (.inr ⟨by rw [had, RB.at_add], ?_⟩)
              have : k * n + (cap - k) * n = cap * n := by rw [← Nat.add_mul]; congr 1; omega
              omega
        · cases h
      · cases h
    · cases h
theorem opSliceArr_mono {t : TypeId} {b off : Nat} {lo hi mx : Option AV} {v : AV} (h : opSliceArr P t b off lo hi mx s = some (v, s')) : Mono s s' := by
  unfold opSliceArr at h
  split at h
  · cases h
  · split at h
    · split at h
      · rename_i hbg
        split at h
        · cases h; exact Mono.note _ _ ⟨_, hbg, trivial⟩
        · cases h
      · cases h
    · cases h
theorem opSliceArr_ok {t : TypeId} {b off : Nat} {x' : Value} {lo hi mx : Option AV} {lo' hi' mx' : Option Value} {v : AV} (h : opSliceArr P t b off lo hi mx s = some (v, s')) (hp : Pre ρ T s s' w) (hx : VR ρ (.ptr b off) x') (hl : VRO ρ lo lo') (hr : VRO ρ hi hi') (hm : VRO ρ mx mx') :
    OK1 P (Instr.sliceAt t x' lo' hi' mx') ρ T s w v s' := by
  unfold opSliceArr at h
  split at h
  · cases h
  · cases hm
    split at h
    · rename_i len e hu
      split at h
      · rename_i k hh n t0 cs hb hs hbg
        split at h
        · rename_i hfit
          cases h
          cases hx with
          | ptr b off r hbr =>
          obtain ⟨hb1, hb2, hb3⟩ := bnds_ok (P := P) (w := w) (b := false) hb (Nat.le_refl _) hl hr
          have hT : T b off := hp.cov (.rd b off 1) (List.mem_cons_self ..) (lt_n hp.wf hbg) b off ⟨rfl, Nat.le_refl _, Nat.lt_succ_self _⟩
          obtain ⟨r0, c, fr, q1, q2, q3, q4, q5, q6⟩ := hp.good.sat b _ hbg ⟨off, hT⟩
          replace q4 := q4.1
          have : r0 = r := Option.some.inj (q1.symm.trans hbr)
          subst this
          refine ⟨ρ, w, .slice (some (if len = k then r0.at off else (r0.at off).add (k * n))) (hh - k) (len - k), ?_, Post.same hp.good rfl rfl (Still.refl w), ?_⟩
          · by_cases hck : len = k
            · subst hck
              simp [Instr.sliceAt, Instr.sureAddr, run_underlying hu, hb1, run_szOf hs]
            · simp [Instr.sliceAt, Instr.sureAddr, run_underlying hu, hb1, run_szOf hs, hck]
          · by_cases hck : len = k
            · rw [if_pos hck]
              exact .slice b _ _ _ n r0 _ _ hbr (by omega) (by omega) (.inl (by omega))
            · rw [if_neg hck]
              refine .slice b _ _ _ n r0 _ _ hbr (by omega) (by omega) (.inr ⟨by rw [RB.at_add], ?_⟩)
              have : k * n + (len - k) * n = len * n := by rw [← Nat.add_mul]; congr 1; omega
              omega
        · cases h
      · cases h
    · cases h
theorem opFieldAddr_ok {t : TypeId} {x v : AV} {x' : Value} {f : Nat} (h : opFieldAddr P t x f = some v) (hx : VR ρ x x') : ∃ v', (Instr.fieldAt t x' f).run P w = .ok v' w ∧ VR ρ v v' := by
  unfold opFieldAddr at h
  split at h
  · rename_i fs b off hu
    split at h
    · rename_i fd hfd
      split at h
      · rename_i n hs
        cases h
        cases hx with
        | ptr b off r hbr =>
        refine ⟨_, ?_, .ptr b (off + fd.offset) r hbr⟩
        simp [Instr.fieldAt, run_underlying hu, hfd, Instr.sureAddr, fieldPlace, run_szOf hs, RB.at_add]
      · cases h
    · cases h
  · cases h
theorem opField_ok {t : TypeId} {x v : AV} {x' : Value} {f : Nat} (h : opField P t x f = some v) (hx : VR ρ x x') : ∃ v', (Instr.field t x' f).run P w = .ok v' w ∧ VR ρ v v' := by
  unfold opField at h
  split at h
  · rename_i fs cs hu
    split at h
    · rename_i fd hfd
      cases hx with
      | agg _ cs' hc =>
      obtain ⟨v', h1, h2⟩ := part_ok (P := P) (w := w) h hc
      exact ⟨v', by simp [Instr.field, run_underlying hu, hfd, asAgg, h1], h2⟩
    · cases h
  · cases h
theorem opIndexAddr_ok {t : TypeId} {x i v : AV} {x' i' : Value} (h : opIndexAddr P t x i = some v) (hx : VR ρ x x') (hi : VR ρ i i') : ∃ v', (Instr.indexAt t x' i').run P w = .ok v' w ∧ VR ρ v v' := by
  unfold opIndexAddr at h
  split at h
  · rename_i len e b off k n hu
    split at h
    · rename_i m hs
      split at h
      · rename_i hlt
        cases h
        cases hi
        cases hx with
        | ptr b off r hbr =>
        refine ⟨_, ?_, .ptr b (off + n * m) r hbr⟩
        have hc : (0 : Int) ≤ Int.ofNat n ∧ Int.ofNat n < (len : Int) := ⟨Int.natCast_nonneg n, by show (n : Int) < len; omega⟩
        simp only [Instr.indexAt, asIntOf, Sem.run_bind, Sem.run_pure, Result.andThen_ok, run_underlying hu, Instr.sureAddr, Sem.run_ite, if_pos hc, run_szOf hs, RB.at_add]
        rfl
      · cases h
    · cases h
  · rename_i e b off len mc es k n hu
    split at h
    · rename_i m hs
      split at h
      · rename_i hlt
        cases h
        cases hi
        cases hx with
        | slice b off len mc es r ad cap hbr k1 k2 k3 =>
        obtain ⟨had, hfit⟩ := k3.resolve_left (by omega)
        refine ⟨_, ?_, .ptr b (off + n * m) r hbr⟩
        have hc : (0 : Int) ≤ Int.ofNat n ∧ Int.ofNat n < (len : Int) := ⟨Int.natCast_nonneg n, by show (n : Int) < len; omega⟩
        simp only [Instr.indexAt, asIntOf, Sem.run_bind, Sem.run_pure, Result.andThen_ok, run_underlying hu, Sem.run_ite, if_pos hc, run_szOf hs, had, RB.at_add]
        rfl
      · cases h
    · cases h
  · cases h
theorem ba_get (ba : ByteArray) (n : Nat) : ba[n]? = ba.data[n]? := by
  by_cases h : n < ba.size
  · rw [getElem?_pos ba n h, Array.getElem?_eq_getElem (show n < ba.data.size from h)]; rfl
  · rw [getElem?_neg ba n h, Array.getElem?_eq_none (Nat.not_lt.1 h)]
theorem opIndex_ok {t : TypeId} {x i v : AV} {x' i' : Value} (h : opIndex P t x i = some v) (hx : VR ρ x x') (hi : VR ρ i i') : ∃ v', (Instr.index t x' i').run P w = .ok v' w ∧ VR ρ v v' := by
  unfold opIndex at h
  split at h
  · rename_i l k n hu
    split at h
    · rename_i m hm
      cases h
      cases hi
      cases hx with
      | str _ hlt =>
      refine ⟨_, ?_, .int _ _⟩
      have hc : (0 : Int) ≤ Int.ofNat n := Int.natCast_nonneg n
      have hg : (⟨(l.map UInt8.ofNat).toArray⟩ : ByteArray)[n]? = some (UInt8.ofNat m) := by
        rw [ba_get]
        simp [hm]
      have hmm := hlt m (List.mem_of_getElem? hm)
      have e : (UInt8.ofNat m).toNat = m := by simp; omega
      simp only [Instr.index, asIntOf, Sem.run_bind, Sem.run_pure, Result.andThen_ok, run_underlying hu, if_pos hc]
      show (match (⟨(l.map UInt8.ofNat).toArray⟩ : ByteArray)[n]? with
        | some b => (Pure.pure (.int .u8 b.toNat) : Sem Value)
        | none => boundsPanic k n _ .index).run P w = _
      rw [hg]
      simp only [Sem.run_pure, e]
      rfl
    · cases h
  · rename_i len e cs k n hu
    split at h
    · rename_i m hs
      split at h
      · rename_i hlt
        cases hi
        cases hx with
        | agg _ cs' hc =>
        obtain ⟨v', h1, h2⟩ := part_ok (P := P) (w := w) h hc
        refine ⟨v', ?_, h2⟩
        have hc : (0 : Int) ≤ Int.ofNat n ∧ Int.ofNat n < (len : Int) := ⟨Int.natCast_nonneg n, by show (n : Int) < len; omega⟩
        simp only [Instr.index, asIntOf, Sem.run_bind, Sem.run_pure, Result.andThen_ok, run_underlying hu, Sem.run_ite, if_pos hc, run_szOf hs]
        exact h1
      · cases h
    · cases h
  · cases h
theorem opAssert_ok {x v : AV} {x' : Value} {tx t : TypeId} {ok : Bool} (h : opAssert P x t ok = some v) (hx : VR ρ x x') : ∃ v', (Instr.typeAssert x' tx t ok).run P w = .ok v' w ∧ VR ρ v v' := by
  unfold opAssert at h
  split at h
  · cases h
  · rename_i d hd hu
    split at h
    · rename_i hok
      split at h
      · rename_i z hz
        cases h
        cases hx
        subst hok
        obtain ⟨zv, h1, _, h3⟩ := run_zero (ρ := ρ) hz w
        refine ⟨.tuple #[zv, .bool false], ?_, .tuple _ _ (.cons _ _ _ _ h3 (.cons _ _ _ _ (.bool _) .nil))⟩
        cases d <;> first | (simp [Instr.typeAssert, run_underlying hu, h1]; done) | exact absurd rfl (hd _)
      · cases h
    · cases h
  · rename_i d u a hd hu
    cases hx with
    | iface _ _ a' ha =>
    split at h
    · rename_i hut
      subst hut
      cases h
      refine ⟨if ok then .tuple #[a', .bool true] else a', ?_, ?_⟩
      · cases d <;> first | (simp [Instr.typeAssert, run_underlying hu]; done) | exact absurd rfl (hd _)
      · cases ok
        · exact ha
        · exact .tuple _ _ (.cons _ _ _ _ ha (.cons _ _ _ _ (.bool _) .nil))
    · rename_i hut
      split at h
      · rename_i hok
        split at h
        · rename_i z hz
          cases h
          subst hok
          obtain ⟨zv, h1, _, h3⟩ := run_zero (ρ := ρ) hz w
          refine ⟨.tuple #[zv, .bool false], ?_, .tuple _ _ (.cons _ _ _ _ h3 (.cons _ _ _ _ (.bool _) .nil))⟩
          cases d <;> first | (simp [Instr.typeAssert, run_underlying hu, h1, hut]; done) | exact absurd rfl (hd _)
        · cases h
      · cases h
  · cases h
end
end Go.Proofs.YtjikgmbhnknojaaGreatDoor.Rk

/- What the reckoner's maps say of the model's. Plain lemmas. -/
namespace Go.Proofs.YtjikgmbhnknojaaGreatDoor.Rk
open Go
set_option linter.unusedVariables false
def MR (ρ : Env) (es : List ME) (l : List MapEntry) : Prop := VRL ρ (es.map (·.k)) (l.map (·.key)) ∧ VRL ρ (es.map (·.v)) (l.map (·.val)) ∧ es.map (·.born) = l.map (·.born)
theorem MR.nil {ρ : Env} : MR ρ [] [] := ⟨.nil, .nil, rfl⟩
theorem MR.cons {ρ : Env} {e : ME} {e' : MapEntry} {es : List ME} {l : List MapEntry} (h1 : VR ρ e.k e'.key) (h2 : VR ρ e.v e'.val) (h3 : e.born = e'.born) (h : MR ρ es l) : MR ρ (e :: es) (e' :: l) :=
  ⟨.cons _ _ _ _ h1 h.1, .cons _ _ _ _ h2 h.2.1, by simp [h3, h.2.2]⟩
theorem MR.inv {ρ : Env} {e : ME} {es : List ME} {l : List MapEntry} (h : MR ρ (e :: es) l) : ∃ e' l', l = e' :: l' ∧ VR ρ e.k e'.key ∧ VR ρ e.v e'.val ∧ e.born = e'.born ∧ MR ρ es l' := by
  obtain ⟨h1, h2, h3⟩ := h
  cases l with
  | nil => cases h1
  | cons e' l' =>
    simp only [List.map_cons] at h1 h2 h3
    cases h1 with
    | cons _ _ _ _ a b => cases h2 with
      | cons _ _ _ _ c d =>
        simp only [List.cons.injEq] at h3
        exact ⟨e', l', rfl, a, c, h3.1, b, d, h3.2⟩
theorem MR.inv_nil {ρ : Env} {l : List MapEntry} (h : MR ρ [] l) : l = [] := by
  cases l with
  | nil => rfl
  | cons e l => cases h.1
theorem MR.len {ρ : Env} {es : List ME} {l : List MapEntry} (h : MR ρ es l) : l.length = es.length := by
  have := h.1.length
  simpa using this
theorem MR.filter {ρ : Env} (p : Nat → Bool) : ∀ {es : List ME} {l : List MapEntry}, MR ρ es l → MR ρ (es.filter fun e => p e.born) (l.filter fun e => p e.born)
  | [], l, h => by rw [h.inv_nil]; exact .nil
  | e :: es, l, h => by
    obtain ⟨e', l', rfl, h1, h2, h3, h4⟩ := h.inv
    have ih := MR.filter p h4
    rw [List.filter_cons, List.filter_cons, h3]
    cases p e'.born
    · simpa using ih
    · simpa using ih.cons h1 h2 h3
theorem MR.any {ρ : Env} (p : Nat → Bool) {es : List ME} {l : List MapEntry} (h : MR ρ es l) : es.any (fun e => p e.born) = l.any (fun e => p e.born) := by
  have e1 : es.any (fun e => p e.born) = (es.map (·.born)).any p := by rw [List.any_map]; rfl
  have e2 : l.any (fun e => p e.born) = (l.map (·.born)).any p := by rw [List.any_map]; rfl
  rw [e1, e2, h.2.2]
theorem MR.append {ρ : Env} : ∀ {es : List ME} {l : List MapEntry} {e : ME} {e' : MapEntry}, MR ρ es l → VR ρ e.k e'.key → VR ρ e.v e'.val → e.born = e'.born → MR ρ (es ++ [e]) (l ++ [e'])
  | [], l, e, e', h, h1, h2, h3 => by rw [h.inv_nil]; exact .cons h1 h2 h3 .nil
  | x :: es, l, e, e', h, h1, h2, h3 => by
    obtain ⟨x', l', rfl, g1, g2, g3, g4⟩ := h.inv
    exact .cons g1 g2 g3 (MR.append g4 h1 h2 h3)
theorem MR.modify {ρ : Env} {x : AV} {x' k' : Value} (hx : VR ρ x x') : ∀ {es : List ME} {l : List MapEntry} (i : Nat), MR ρ es l → (∀ e', l[i]? = some e' → e'.key = k') → MR ρ (es.modify i fun e => { e with v := x }) (l.modify i fun e => { e with key := k', val := x' })
  | [], l, i, h, _ => by rw [h.inv_nil]; simpa using MR.nil
  | e :: es, l, 0, h, hk => by
    obtain ⟨e', l', rfl, g1, g2, g3, g4⟩ := h.inv
    have := hk e' rfl
    simp only [List.modify_zero_cons]
    exact .cons (by rw [← this]; exact g1) hx g3 g4
  | e :: es, l, i + 1, h, hk => by
    obtain ⟨e', l', rfl, g1, g2, g3, g4⟩ := h.inv
    simp only [List.modify_succ_cons]
    exact .cons g1 g2 g3 (MR.modify hx i g4 (fun y hy => hk y (by simpa using hy)))
section
variable {P : Program} {ρ : Env} {T : Nat → Nat → Prop} {s s' : St} {w w' : World}
theorem ba_beq (l k : List Nat) (hl : ∀ x ∈ l, x < 256) (hk : ∀ x ∈ k, x < 256) : ((⟨(l.map UInt8.ofNat).toArray⟩ : ByteArray) == ⟨(k.map UInt8.ofNat).toArray⟩) = decide (l = k) := by
  show ((l.map UInt8.ofNat).toArray == (k.map UInt8.ofNat).toArray) = decide (l = k)
  rw [Bool.eq_iff_iff]
  simp [map_ofNat_inj hl hk]
theorem VR.str_inv {l : List Nat} {v : Value} (h : VR ρ (.str l) v) : (∀ x ∈ l, x < 256) ∧ v = .string ⟨(l.map UInt8.ofNat).toArray⟩ := by
  cases h with
  | str _ h => exact ⟨h, rfl⟩
theorem VR.int_inv {k : IntKind} {n : Int} {v : Value} (h : VR ρ (.int k n) v) : v = .int k n := by cases h; rfl
theorem run_array1 {t e : TypeId} {x y : Value} {xs ys : Array Value} {n : Nat} {b : Bool} (hu : P.underlying t = some (.array 1 e)) (hs : szOf P e = some 1) (hx : (part e xs 0).run P w = .ok x w) (hy : (part e ys 0).run P w = .ok y w) (h : (Op.equalIn n e x y).run P w = .ok b w) :
    (Op.equalIn (n + 1) t (.agg xs) (.agg ys)).run P w = .ok b w := by
  conv => lhs; unfold Op.equalIn
  simp only [Sem.run_bind, run_underlying hu, Result.andThen_ok, run_szOf hs]
  simp only [Std.Legacy.Range.forIn_eq_forIn_range', Std.Legacy.Range.size, Nat.sub_zero, Nat.add_one_sub_one, Nat.div_one]
  simp only [List.range'_succ, List.range'_zero, List.forIn_cons, List.forIn_nil, Nat.zero_mul, Sem.run_bind, hx, hy, h, Result.andThen_ok]
  cases b <;> simp
theorem cellOk_noagg {d : TypeDesc} {a : List AV} (h : cellOk d (.agg a) = true) : False := by cases d <;> cases h
theorem same_cell {d : TypeDesc} {k : AV} {k' : Value} (hk : cellOk d k = true) (hkk : VR ρ k k') : ∀ n, Instr.sameBits n k' k' = true := by
  intro n
  cases hkk <;> first | (cases d <;> cases hk; done) | skip
  · cases n <;> simp [Instr.sameBits]
  · cases n <;> simp [Instr.sameBits]
  · rename_i lk hlk
    have := ba_beq lk lk hlk hlk
    cases n <;> simp [Instr.sameBits, this]
theorem same_cells (n : Nat) : ∀ {fs : List Field} {cs : List AV} {i : Nat} {cs' : List Value}, cellsOk P fs cs i = true → VRL ρ cs cs' → ((cs'.zip cs').all fun (x, y) => Instr.sameBits n x y) = true
  | [], [], i, cs', hk, hx => by cases hx; rfl
  | [], _ :: _, i, cs', hk, hx => by cases hk
  | _ :: _, [], i, cs', hk, hx => by cases hk
  | f :: fs, c :: cs, i, cs', hk, hx => by
    cases hx with
    | cons _ v _ vs g1 g2 =>
      simp only [cellsOk, Bool.and_eq_true, bne_iff_ne, ne_eq, decide_eq_true_eq] at hk
      obtain ⟨⟨⟨k1, k2⟩, k3⟩, k4⟩ := hk
      cases hu : P.underlying f.type with
      | none => rw [hu] at k3; cases k3
      | some d =>
        rw [hu] at k3
        simp only [List.zip_cons_cons, List.all_cons, Bool.and_eq_true]
        exact ⟨same_cell k3 g1 n, same_cells n k4 g2⟩
theorem same_key {kt : TypeId} {d : TypeDesc} {k : AV} {k' : Value} (hk : keyOk P kt d k = true) (hkk : VR ρ k k') : Instr.sameBits 10000 k' k' = true := by
  unfold keyOk at hk
  split at hk
  · simp only [Bool.and_eq_true, Bool.not_eq_true'] at hk
    cases hkk with
    | agg _ xs hx =>
    show (xs.size == xs.size && (xs.toList.zip xs.toList).all fun (x, y) => Instr.sameBits 9999 x y) = true
    rw [same_cells 9999 hk.2 hx]
    simp
  · rename_i el c
    simp only [Bool.and_eq_true, decide_eq_true_eq] at hk
    cases hu : P.underlying el with
    | none => rw [hu] at hk; cases hk.2
    | some de =>
      rw [hu] at hk
      cases hkk with
      | agg _ xs hx =>
      show (xs.size == xs.size && (xs.toList.zip xs.toList).all fun (x, y) => Instr.sameBits 9999 x y) = true
      generalize xs.toList = xl at hx
      cases hx with
      | cons _ v _ vs a b =>
        cases b
        simp [same_cell hk.2 a 9999]
  · exact same_cell hk hkk _
theorem keyEq_run {kt : TypeId} {d : TypeDesc} {k y : AV} {k' y' : Value} {b : Bool} (hd : P.underlying kt = some d) (hk : keyOk P kt d k = true) (h : keyEq k y = some b) (hkk : VR ρ k k') (hy : VR ρ y y') (w : World) :
    (Op.equal kt k' y').run P w = .ok b w ∧ (Instr.sameNow d k' y' = some b ∨ Instr.sameNow d k' y' = none) ∧ (b = true → y' = k') := by
  show (Op.equalIn (9998 + 2) kt k' y').run P w = .ok b w ∧ _
  unfold keyEq at h
  split at h
  · rename_i a c
    cases hkk with
    | agg _ xs hx1 => cases hy with
      | agg _ ys hy1 =>
        have hn : Instr.sameNow d (.agg xs) (.agg ys) = none := by cases d <;> rfl
        refine (fun ⟨h1, h2⟩ => ⟨h1, .inr hn, h2⟩ : (_ ∧ _) → _) ?_
        unfold keyOk at hk
        split at hk
        · rename_i fs cs he
          cases he
          simp only [Bool.and_eq_true, Bool.not_eq_true'] at hk
          obtain ⟨h1, h2⟩ := run_structEq (n := 9998) hd hk.1 hk.2 h hx1 hy1 w
          exact ⟨h1, fun h => by rw [h2 h]⟩
        · rename_i e cc he
          cases he
          simp only [Bool.and_eq_true, decide_eq_true_eq] at hk
          cases hu : P.underlying e with
          | none => rw [hu] at hk; cases hk.2
          | some de =>
            rw [hu] at hk
            cases c with
            | nil => cases h
            | cons c2 c3 =>
              obtain ⟨x1, xr, ex, g1, g2⟩ : ∃ x1 xr, xs.toList = x1 :: xr ∧ VR ρ cc x1 ∧ VRL ρ [] xr := by
                generalize xs.toList = xl at hx1
                cases hx1 with
                | cons _ v _ vs a b => exact ⟨v, vs, rfl, a, b⟩
              obtain ⟨y1, yr, ey, q1, q2⟩ : ∃ y1 yr, ys.toList = y1 :: yr ∧ VR ρ c2 y1 ∧ VRL ρ c3 yr := by
                generalize ys.toList = yl at hy1
                cases hy1 with
                | cons _ v _ vs a b => exact ⟨v, vs, rfl, a, b⟩
              have p1 := part_cell hu (cellOk_agg hk.2) (show xs[0]? = some x1 by rw [← Array.getElem?_toList, ex]; rfl) w
              have p2 := part_cell hu (cellOk_agg hk.2) (show ys[0]? = some y1 by rw [← Array.getElem?_toList, ey]; rfl) w
              unfold cellsEq at h
              cases hc : cellEq cc c2 with
              | none => rw [hc] at h; cases h
              | some b0 =>
                rw [hc] at h
                obtain ⟨r1, _, r2⟩ := cellEq_ok (n := 9998) hu hk.2 hc g1 q1 w
                have hr := run_array1 hd hk.1 p1 p2 r1
                cases b0 with
                | false => cases h; exact ⟨hr, fun h => by cases h⟩
                | true =>
                  cases c3 with
                  | cons _ _ => cases h
                  | nil =>
                    cases h
                    refine ⟨hr, fun _ => ?_⟩
                    cases g2
                    cases q2
                    have : ys = xs := Array.ext' (by rw [ex, ey, r2 rfl])
                    rw [this]
        · exact (cellOk_noagg hk).elim
  · rename_i hn
    have hkc : cellOk d k = true := by
      unfold keyOk at hk
      split at hk
      · unfold cellEq at h
        split at h <;> first | (cases h; done) | cases ‹AV.agg _ = _›
      · unfold cellEq at h
        split at h <;> first | (cases h; done) | cases ‹AV.agg _ = _›
      · exact hk
    obtain ⟨h1, h2, h3⟩ := cellEq_ok (n := 9999) hd hkc h hkk hy w
    exact ⟨h1, .inl h2, h3⟩
/-- What a key's search finds. -/
def Fnd (P : Program) (w : World) (kt : TypeId) (d : TypeDesc) (k' : Value) (l : List MapEntry) (i : Nat) (q : Option (Nat × Value)) : Prop := (Instr.findAsking kt k' l i).run P w = .ok q w ∧ (Instr.findNow d k' l i = some q ∨ Instr.findNow d k' l i = none)
theorem findK_ok {kt : TypeId} {d : TypeDesc} {k : AV} {k' : Value} (hd : P.underlying kt = some d) (hk : keyOk P kt d k = true) (hkk : VR ρ k k') (w : World) : ∀ {es : List ME} {l : List MapEntry} (i : Nat) {r : Option (Nat × AV)}, MR ρ es l → findK k es i = some r →
    (r = none ∧ Fnd P w kt d k' l i none) ∨ ∃ j v e', r = some (j, v) ∧ i ≤ j ∧ l[j - i]? = some e' ∧ Fnd P w kt d k' l i (some (j, e'.val)) ∧ e'.key = k' ∧ VR ρ v e'.val
  | [], l, i, r, h, hf => by
    simp [findK] at hf
    subst hf
    rw [h.inv_nil]
    exact .inl ⟨rfl, rfl, .inl rfl⟩
  | e :: es, l, i, r, h, hf => by
    obtain ⟨e', l', rfl, g1, g2, g3, g4⟩ := h.inv
    unfold findK at hf
    split at hf
    · rename_i hb
      cases hf
      obtain ⟨h1, h2, h3⟩ := keyEq_run hd hk hb hkk g1 w
      refine .inr ⟨i, e.v, e', rfl, Nat.le_refl _, by simp, ⟨by simp [Instr.findAsking, h1], ?_⟩, h3 rfl, g2⟩
      rcases h2 with h2 | h2
      · exact .inl (by simp [Instr.findNow, h2])
      · exact .inr (by simp [Instr.findNow, h2])
    · rename_i hb
      obtain ⟨h1, h2, _⟩ := keyEq_run hd hk hb hkk g1 w
      have hgo : ∀ q, Fnd P w kt d k' l' (i + 1) q → Fnd P w kt d k' (e' :: l') i q := fun q ⟨a1, a2⟩ => ⟨by simp [Instr.findAsking, h1, a1], by
        rcases h2 with h2 | h2
        · simpa [Instr.findNow, h2] using a2
        · exact .inr (by simp [Instr.findNow, h2])⟩
      rcases findK_ok hd hk hkk w (i + 1) g4 hf with ⟨h2, h3⟩ | ⟨j, v, x, h2, h3, h4, h5, h6, h7⟩
      · exact .inl ⟨h2, hgo _ h3⟩
      · refine .inr ⟨j, v, x, h2, by omega, ?_, hgo _ h5, h6, h7⟩
        rw [show j - i = (j - (i + 1)) + 1 by omega, List.getElem?_cons_succ]
        exact h4
    · cases hf
theorem ck_cell {t : TypeId} {d : TypeDesc} {k : AV} {k' : Value} {n : Nat} (hd : P.underlying t = some d) (hk : cellOk d k = true) (hkk : VR ρ k k') (e : Bool) (w : World) : (Instr.checkKey e (n + 1) t k').run P w = .ok () w := by
  conv => lhs; unfold Instr.checkKey
  rw [Sem.run_bind, run_underlying hd]
  cases d <;> simp [cellOk] at hk <;> cases hkk <;> first | rfl | simp at hk
theorem ck_cells {n : Nat} {xs : Array Value} (e : Bool) (w : World) : ∀ {fs : List Field} {cs : List AV} {i : Nat} {cs' : List Value}, cellsOk P fs cs i = true → VRL ρ cs cs' → (∀ j v, cs'[j]? = some v → xs[i + j]? = some v) →
    (forIn (m := Sem) fs PUnit.unit (fun f (_ : PUnit) => if f.name ≠ "_" then do let v ← part f.type xs f.offset; Instr.checkKey e (n + 1) f.type v; pure (ForInStep.yield PUnit.unit) else pure (ForInStep.yield PUnit.unit))).run P w = .ok PUnit.unit w
  | [], [], i, cs', hk, hx, h1 => rfl
  | [], _ :: _, i, cs', hk, hx, h1 => by cases hk
  | _ :: _, [], i, cs', hk, hx, h1 => by cases hk
  | f :: fs, c :: cs, i, cs', hk, hx, h1 => by
    cases hx with
    | cons _ v _ vs g1 g2 =>
      simp only [cellsOk, Bool.and_eq_true, bne_iff_ne, ne_eq, decide_eq_true_eq] at hk
      obtain ⟨⟨⟨k1, k2⟩, k3⟩, k4⟩ := hk
      cases hu : P.underlying f.type with
      | none => rw [hu] at k3; cases k3
      | some d =>
        rw [hu] at k3
        have p1 := part_cell hu (cellOk_agg k3) (h1 0 v rfl) w
        rw [Nat.add_zero] at p1
        have ih := ck_cells (n := n) e w k4 g2 (fun j v hv => by rw [show i + 1 + j = i + (j + 1) by omega]; exact h1 (j + 1) v (by simpa using hv))
        rw [List.forIn_cons, if_pos k1, k2]
        simp only [Sem.run_bind, p1, Result.andThen_ok, ck_cell hu k3 g1 e w, Sem.run_pure]
        exact ih
theorem run_ck {d : TypeDesc} {kt : TypeId} {k : AV} {k' : Value} (hd : P.underlying kt = some d) (hk : keyOk P kt d k = true) (hkk : VR ρ k k') (e : Bool) (w : World) : (Instr.checkKey e 10000 kt k').run P w = .ok () w := by
  unfold keyOk at hk
  split at hk
  · rename_i fs cs
    simp only [Bool.and_eq_true, Bool.not_eq_true'] at hk
    cases hkk with
    | agg _ xs hx =>
    show (Instr.checkKey e (9998 + 1 + 1) kt (.agg xs)).run P w = .ok () w
    conv => lhs; unfold Instr.checkKey
    rw [Sem.run_bind, run_underlying hd]
    simp only [Result.andThen_ok]
    rw [← Array.forIn_toList]
    rw [Sem.run_bind]
    have := ck_cells (n := 9998) e w hk.2 hx (fun j v hv => by simpa using hv)
    rw [this]
    rfl
  · rename_i el c
    simp only [Bool.and_eq_true, decide_eq_true_eq] at hk
    cases hu : P.underlying el with
    | none => rw [hu] at hk; cases hk.2
    | some de =>
      rw [hu] at hk
      cases hkk with
      | agg _ xs hx =>
      obtain ⟨x1, xr, ex, g1, g2⟩ : ∃ x1 xr, xs.toList = x1 :: xr ∧ VR ρ c x1 ∧ VRL ρ [] xr := by
        generalize xs.toList = xl at hx
        cases hx with
        | cons _ v _ vs a b => exact ⟨v, vs, rfl, a, b⟩
      have p1 := part_cell hu (cellOk_agg hk.2) (show xs[0]? = some x1 by rw [← Array.getElem?_toList, ex]; rfl) w
      show (Instr.checkKey e (9998 + 1 + 1) kt (.agg xs)).run P w = .ok () w
      conv => lhs; unfold Instr.checkKey
      simp only [Sem.run_bind, run_underlying hd, Result.andThen_ok]
      simp only [Std.Legacy.Range.forIn_eq_forIn_range', Std.Legacy.Range.size, Nat.sub_zero, Nat.add_one_sub_one, Nat.div_one]
      simp [List.range'_succ, List.range'_zero, List.forIn_cons, List.forIn_nil, run_szOf hk.1, p1, ck_cell hu hk.2 g1 e w]
  · exact ck_cell hd hk hkk e w
theorem run_fk {d : TypeDesc} {kt : TypeId} {k' : Value} {l : List MapEntry} {r : Option (Nat × Value)} (hd : P.underlying kt = some d) (h : Fnd P w kt d k' l 0 r) : (Instr.findKey kt k' l).run P w = .ok r w := by
  obtain ⟨h1, h2⟩ := h
  rcases h2 with h2 | h2
  · simp [Instr.findKey, run_underlying hd, h2]
  · simp [Instr.findKey, run_underlying hd, h2, h1]
theorem mapA_mono {x : AV} {es : List ME} {s1 : St} (h : mapA x s = some (es, s1)) : Mono s s1 ∧ s1.heap = s.heap ∧ s1.n = s.n := by
  unfold mapA at h
  split at h
  · cases h; exact ⟨Mono.refl _, rfl, rfl⟩
  · split at h
    · rename_i hb
      cases h; exact ⟨Mono.note _ _ ⟨_, hb, trivial⟩, rfl, rfl⟩
    · cases h
  · cases h
theorem mapA_ok {x : AV} {x' : Value} {es : List ME} {s1 : St} (h : mapA x s = some (es, s1)) (hp : Pre ρ T s s1 w) (hx : VR ρ x x') :
    (x' = .map none ∧ es = []) ∨ ∃ r l clock, x' = .map (some r) ∧ w.heap[r]? = some (.map l clock) ∧ MR ρ es l.toList := by
  unfold mapA at h
  split at h
  · cases h; cases hx; exact .inl ⟨rfl, rfl⟩
  · rename_i b
    split at h
    · rename_i es0 clock hb
      cases h
      cases hx with
      | map b r hbr =>
      have hT : T b 0 := hp.cov (.rd b 0 1) (List.mem_cons_self ..) (lt_n hp.wf hb) b 0 ⟨rfl, Nat.le_refl _, Nat.one_pos⟩
      obtain ⟨r0, l, q1, q2, q3⟩ := hp.good.sat b _ hb ⟨0, hT⟩
      have : r0 = r := Option.some.inj (q1.symm.trans hbr)
      subst this
      exact .inr ⟨r0.blk, l, clock, rfl, q2, q3⟩
    · cases h
  · cases h
theorem opLookup_mono {t : TypeId} {x i v : AV} {ok : Bool} (h : opLookup P t x i ok s = some (v, s')) : Mono s s' := by
  unfold opLookup at h
  split at h
  · split at h
    · rename_i hm
      obtain ⟨h1, h2, h3⟩ := mapA_mono hm
      split at h
      · split at h
        · cases h; exact h1
        · split at h
          · cases h; exact h1
          · cases h
        · cases h
      · cases h
    · cases h
  · cases h
theorem opLookup_ok {t : TypeId} {x i v : AV} {x' i' : Value} {ok : Bool} (h : opLookup P t x i ok s = some (v, s')) (hp : Pre ρ T s s' w) (hx : VR ρ x x') (hi : VR ρ i i') : OK1 P (Instr.lookup t x' i' ok) ρ T s w v s' := by
  unfold opLookup at h
  split at h
  · rename_i kt e hu
    split at h
    · rename_i d es s1 hd hm
      obtain ⟨m1, m2, m3⟩ := mapA_mono hm
      split at h
      · rename_i hk
        have hs1 : s1 = s' := by
          split at h
          · cases h; rfl
          · split at h
            · cases h; rfl
            · cases h
          · cases h
        subst hs1
        have hpost : Post ρ T s w ρ s1 w := Post.same hp.good m2 m3 (Still.refl w)
        have hes : ∃ l : Array MapEntry, MR ρ es l.toList ∧ ((x' = .map none ∧ l = #[]) ∨ ∃ r clock, x' = .map (some r) ∧ w.heap[r]? = some (.map l clock)) := by
          rcases mapA_ok hm hp hx with ⟨rfl, rfl⟩ | ⟨r, l, clock, rfl, h2, h3⟩
          · exact ⟨#[], MR.nil, .inl ⟨rfl, rfl⟩⟩
          · exact ⟨l, h3, .inr ⟨r, clock, rfl, h2⟩⟩
        obtain ⟨l, hmr, hx'⟩ := hes
        split at h
        · rename_i j v0 hf
          cases h
          rcases findK_ok hd hk hi w 0 hmr hf with ⟨h2, _⟩ | ⟨j', v', e', h2, h3, h4, h5, h6, h7⟩
          · cases h2
          · cases h2
            refine ⟨ρ, w, if ok then .tuple #[e'.val, .bool true] else e'.val, ?_, hpost, ?_⟩
            · rcases hx' with ⟨rfl, rfl⟩ | ⟨r, clock, rfl, hr⟩
              · simp at h4
              · unfold Instr.lookup
                simp only [Sem.run_bind, run_underlying hu, Result.andThen_ok, MapKept.run_getObj_map hr, Sem.run_pure, run_ck hd hk hi, run_fk hd h5]
            · cases ok
              · exact h7
              · exact .tuple _ _ (.cons _ _ _ _ h7 (.cons _ _ _ _ (.bool _) .nil))
        · rename_i hf
          split at h
          · rename_i z hz
            cases h
            obtain ⟨zv, hz1, _, hz3⟩ := run_zero (ρ := ρ) hz w
            rcases findK_ok hd hk hi w 0 hmr hf with ⟨_, h3⟩ | ⟨j', v', e', h2, _⟩
            · refine ⟨ρ, w, if ok then .tuple #[zv, .bool false] else zv, ?_, hpost, ?_⟩
              · rcases hx' with ⟨rfl, rfl⟩ | ⟨r, clock, rfl, hr⟩
                · unfold Instr.lookup
                  simp only [Sem.run_bind, run_underlying hu, Result.andThen_ok, Sem.run_pure, run_ck hd hk hi, run_fk hd h3, hz1]
                · unfold Instr.lookup
                  simp only [Sem.run_bind, run_underlying hu, Result.andThen_ok, MapKept.run_getObj_map hr, Sem.run_pure, run_ck hd hk hi, run_fk hd h3, hz1]
              · cases ok
                · exact hz3
                · exact .tuple _ _ (.cons _ _ _ _ hz3 (.cons _ _ _ _ (.bool _) .nil))
            · cases h2
          · cases h
        · cases h
      · cases h
    · cases h
  · cases h
theorem pmapOf_inv {x : AV} {b : Nat} {es : List ME} (h : pmapOf x s = some (b, es)) : x = .map b ∧ s.heap.get b = some (.pmap es) := by
  unfold pmapOf at h
  split at h
  · split at h
    · rename_i hb
      cases h
      exact ⟨rfl, hb⟩
    · cases h
  · cases h
theorem opLookupP_log {t : TypeId} {b : Nat} {es : List ME} {i v : AV} {ok : Bool} (h : opLookupP P t b es i ok s = some (v, s')) : s' = s.note (.rd b 0 1) := by
  unfold opLookupP at h
  split at h
  · split at h
    · split at h
      · split at h
        · cases h; rfl
        · split at h
          · cases h; rfl
          · cases h
        · cases h
      · cases h
    · cases h
  · cases h
theorem opLookupP_mono {t : TypeId} {x : AV} {b : Nat} {es : List ME} {i v : AV} {ok : Bool} (hx : pmapOf x s = some (b, es)) (h : opLookupP P t b es i ok s = some (v, s')) : Mono s s' := by
  rw [opLookupP_log h]
  exact Mono.note _ _ ⟨_, (pmapOf_inv hx).2, trivial⟩
theorem findK_all {k : AV} : ∀ {es : List ME} (i : Nat), (es.all fun e => (keyEq k e.k).isSome) = true → ∃ r, findK k es i = some r ∧ r.map (·.2) = ((es.filter fun e => keyEq k e.k == some true).head?).map (·.v)
  | [], i, _ => ⟨none, rfl, rfl⟩
  | e :: es, i, h => by
    simp only [List.all_cons, Bool.and_eq_true] at h
    cases he : keyEq k e.k with
    | none => rw [he] at h; cases h.1
    | some b =>
      unfold findK
      simp only [he]
      cases b with
      | true => exact ⟨_, rfl, by simp [he]⟩
      | false =>
        obtain ⟨r, h1, h2⟩ := findK_all (i + 1) h.2
        exact ⟨r, h1, by rw [h2]; simp [he]⟩
theorem lookP_perm {k : AV} {es el : List ME} {r : Option AV} (h : lookP k es = some r) (hp : List.Perm el es) : ∃ q, findK k el 0 = some q ∧ q.map (·.2) = r := by
  unfold lookP at h
  split at h
  · rename_i ha
    have ha' : (el.all fun e => (keyEq k e.k).isSome) = true := by
      rw [List.all_eq_true] at ha ⊢
      exact fun x hx => ha x (hp.mem_iff.1 hx)
    obtain ⟨q, h1, h2⟩ := findK_all 0 ha'
    have hf := hp.filter (fun e => keyEq k e.k == some true)
    refine ⟨q, h1, ?_⟩
    rw [h2]
    split at h
    · rename_i hn
      cases h
      rw [hn] at hf
      rw [hf.eq_nil]
      rfl
    · rename_i e hn
      cases h
      rw [hn] at hf
      rw [List.perm_singleton.1 hf]
      rfl
    · cases h
  · cases h
theorem MR.stamped {ρ : Env} : ∀ {el : List ME} {l : List MapEntry}, VRL ρ (el.map (·.k)) (l.map (·.key)) → VRL ρ (el.map (·.v)) (l.map (·.val)) → ∃ el', MR ρ el' l ∧ ∀ k i, (findK k el' i).map (·.map (·.2)) = (findK k el i).map (·.map (·.2))
  | [], [], _, _ => ⟨[], .nil, fun _ _ => rfl⟩
  | [], _ :: _, h, _ => by cases h
  | _ :: _, [], h, _ => by cases h
  | e :: el, x :: l, h1, h2 => by
    simp only [List.map_cons] at h1 h2
    cases h1 with
    | cons _ _ _ _ a b => cases h2 with
      | cons _ _ _ _ c d =>
        obtain ⟨el', g1, g2⟩ := MR.stamped b d
        refine ⟨⟨e.k, e.v, x.born⟩ :: el', g1.cons a c rfl, fun k i => ?_⟩
        unfold findK
        cases keyEq k e.k with
        | none => rfl
        | some b => cases b <;> first | rfl | exact g2 k (i + 1)
theorem opLookupP_ok {t : TypeId} {x : AV} {b : Nat} {es : List ME} {i v : AV} {x' i' : Value} {ok : Bool} (hx0 : pmapOf x s = some (b, es)) (h : opLookupP P t b es i ok s = some (v, s')) (hp : Pre ρ T s s' w) (hx : VR ρ x x') (hi : VR ρ i i') : OK1 P (Instr.lookup t x' i' ok) ρ T s w v s' := by
  have hlog := opLookupP_log h
  subst hlog
  obtain ⟨rfl, hb⟩ := pmapOf_inv hx0
  cases hx with
  | map _ r hbr =>
  have hT : T b 0 := hp.cov (.rd b 0 1) (List.mem_cons_self ..) (lt_n hp.wf hb) b 0 ⟨rfl, Nat.le_refl _, Nat.one_pos⟩
  obtain ⟨r0, l, el, clock, q1, q2, q3, q4, q5⟩ := hp.good.sat b _ hb ⟨0, hT⟩
  have : r0 = r := Option.some.inj (q1.symm.trans hbr)
  subst this
  have hpost : Post ρ T s w ρ (s.note (.rd b 0 1)) w := Post.same hp.good rfl rfl (Still.refl w)
  obtain ⟨el', hmr, hfe⟩ := MR.stamped q4 q5
  unfold opLookupP at h
  split at h
  · rename_i kt e hu
    split at h
    · rename_i d hd
      split at h
      · rename_i hk
        have fin : ∀ r1, lookP i es = some r1 → ∃ q, findK i el' 0 = some q ∧ q.map (·.2) = r1 := fun r1 hr1 => by
          obtain ⟨q, g1, g2⟩ := lookP_perm hr1 q3
          have := hfe i 0
          rw [g1] at this
          cases hq : findK i el' 0 with
          | none => rw [hq] at this; cases this
          | some q' =>
            rw [hq] at this
            simp only [Option.map_some, Option.some.injEq] at this
            exact ⟨q', rfl, this.trans g2⟩
        split at h
        · rename_i v0 hf
          obtain ⟨q, g1, g2⟩ := fin _ hf
          cases h
          rcases findK_ok hd hk hi w 0 hmr g1 with ⟨h2, _⟩ | ⟨j', v', e', h2, h3, h4, h5, h6, h7⟩
          · rw [h2] at g2; cases g2
          · rw [h2] at g2
            simp only [Option.map_some, Option.some.injEq] at g2
            subst g2
            refine ⟨ρ, w, if ok then .tuple #[e'.val, .bool true] else e'.val, ?_, hpost, ?_⟩
            · unfold Instr.lookup
              simp only [Sem.run_bind, run_underlying hu, Result.andThen_ok, MapKept.run_getObj_map q2, Sem.run_pure, run_ck hd hk hi, run_fk hd h5]
            · cases ok
              · exact h7
              · exact .tuple _ _ (.cons _ _ _ _ h7 (.cons _ _ _ _ (.bool _) .nil))
        · rename_i hf
          obtain ⟨q, g1, g2⟩ := fin _ hf
          split at h
          · rename_i z hz
            cases h
            obtain ⟨zv, hz1, _, hz3⟩ := run_zero (ρ := ρ) hz w
            rcases findK_ok hd hk hi w 0 hmr g1 with ⟨h2, h3⟩ | ⟨j', v', e', h2, _⟩
            · refine ⟨ρ, w, if ok then .tuple #[zv, .bool false] else zv, ?_, hpost, ?_⟩
              · unfold Instr.lookup
                simp only [Sem.run_bind, run_underlying hu, Result.andThen_ok, MapKept.run_getObj_map q2, Sem.run_pure, run_ck hd hk hi, run_fk hd h3, hz1]
              · cases ok
                · exact hz3
                · exact .tuple _ _ (.cons _ _ _ _ hz3 (.cons _ _ _ _ (.bool _) .nil))
            · rw [h2] at g2; cases g2
          · cases h
        · cases h
      · cases h
    · cases h
  · cases h
theorem opUpdate_mono {t : TypeId} {m k x : AV} (h : opUpdate P t m k x s = some s') : Mono s s' := by
  unfold opUpdate at h
  split at h
  · split at h
    · rename_i hb
      split at h
      · split at h
        · cases h; exact Mono.put_note _ _ _ ⟨_, hb, trivial⟩
        · cases h; exact Mono.put_note _ _ _ ⟨_, hb, trivial⟩
        · cases h
      · cases h
    · cases h
  · cases h
theorem alt_set {B : Nat} {o o' : Obj} (h : w.heap[B]? = some o) : Alt w { w with heap := w.heap.setIfInBounds B o' } B o' :=
  ⟨rfl, rfl, rfl, by simp, by have := lt_of_some h; simp [this], fun B' hB => by simp [Ne.symm hB]⟩
theorem setObj_run {B : Nat} {l : Array MapEntry} {c : Nat} {o' : Obj} (h : w.heap[B]? = some (.map l c)) : (setObj B o').run P w = .ok () { w with heap := w.heap.setIfInBounds B o' } := MapKept.run_setObj_map o' h
theorem opUpdate_ok {t : TypeId} {m k x : AV} {m' k' x' : Value} (h : opUpdate P t m k x s = some s') (hp : Pre ρ T s s' w) (hm : VR ρ m m') (hk : VR ρ k k') (hx : VR ρ x x') : ∃ w', (Instr.mapUpdate t m' k' x').run P w = .ok () w' ∧ Post ρ T s w ρ s' w' := by
  unfold opUpdate at h
  split at h
  · rename_i kt et b hu
    split at h
    · rename_i d es clock hd hb
      split at h
      · rename_i hko
        cases hm with
        | map b r hbr =>
        split at h
        · rename_i j v0 hf
          cases h
          have hT : ∀ i, T b i := fun i => hp.cov (.all b) (List.mem_cons_self ..) (lt_n hp.wf hb) b i rfl
          obtain ⟨r0, l, q1, q2, q3⟩ := hp.good.sat b _ hb ⟨0, hT 0⟩
          have : r0 = r := Option.some.inj (q1.symm.trans hbr)
          subst this
          rcases findK_ok hd hko hk w 0 q3 hf with ⟨h2, _⟩ | ⟨j', v', e', h2, h3, h4, h5, h6, h7⟩
          · cases h2
          · cases h2
            rw [Nat.sub_zero, Array.getElem?_toList] at h4
            refine ⟨_, ?_, Post.alt hp.good hb trivial ⟨0, hT 0⟩ hbr (alt_set q2 (o' := .map (l.modify j fun e => { e with key := k', val := x' }) clock)) ⟨r0, _, hbr, (alt_set q2).here, ?_⟩⟩
            · have hkey : (((l[j]?).map (·.key)).getD k') = k' := by rw [h4]; exact h6
              have hst : (Instr.keyThatStays k' k').run P w = .ok k' w := by
                have hsb : Instr.sameBits 10000 k' k' = true := same_key hko hk
                simp [Instr.keyThatStays, hsb]
              unfold Instr.mapUpdate
              rw [Sem.run_bind, run_underlying hu]
              simp only [Result.andThen_ok, Sem.run_bind, MapKept.run_getObj_map q2, run_ck hd hko hk, run_fk hd h5, hkey, hst, setObj_run q2]
            · have := MR.modify hx j q3 (fun y hy => by
                rw [Array.getElem?_toList, h4] at hy
                cases hy
                exact h6)
              rw [Array.toList_modify]
              exact this
        · rename_i hf
          cases h
          have hT : ∀ i, T b i := fun i => hp.cov (.all b) (List.mem_cons_self ..) (lt_n hp.wf hb) b i rfl
          obtain ⟨r0, l, q1, q2, q3⟩ := hp.good.sat b _ hb ⟨0, hT 0⟩
          have : r0 = r := Option.some.inj (q1.symm.trans hbr)
          subst this
          rcases findK_ok hd hko hk w 0 q3 hf with ⟨_, h3⟩ | ⟨j', v', e', h2, _⟩
          · refine ⟨_, ?_, Post.alt hp.good hb trivial ⟨0, hT 0⟩ hbr (alt_set q2 (o' := .map (l.push { key := k', val := x', born := clock }) (clock + 1))) ⟨r0, _, hbr, (alt_set q2).here, ?_⟩⟩
            · unfold Instr.mapUpdate
              rw [Sem.run_bind, run_underlying hu]
              simp only [Result.andThen_ok, Sem.run_bind, MapKept.run_getObj_map q2, run_ck hd hko hk, run_fk hd h3, setObj_run q2]
            · rw [Array.toList_push]
              exact MR.append q3 hk hx rfl
          · cases h2
        · cases h
      · cases h
    · cases h
  · cases h
theorem MR.erase {ρ : Env} : ∀ {es : List ME} {l : List MapEntry} (i : Nat), MR ρ es l → MR ρ (es.eraseIdx i) (l.eraseIdx i)
  | [], l, i, h => by rw [h.inv_nil]; simpa using MR.nil
  | e :: es, l, 0, h => by
    obtain ⟨e', l', rfl, g1, g2, g3, g4⟩ := h.inv
    exact g4
  | e :: es, l, i + 1, h => by
    obtain ⟨e', l', rfl, g1, g2, g3, g4⟩ := h.inv
    simp only [List.eraseIdx_cons_succ]
    exact .cons g1 g2 g3 (MR.erase i g4)
theorem unit_inv {x : Option St} {v : AV} (h : unit x = some (v, s')) : x = some s' ∧ v = undefA := by
  unfold unit at h
  split at h
  · cases h; exact ⟨rfl, rfl⟩
  · cases h
theorem opDelete_mono {t : TypeId} {m k : AV} (h : opDelete P t m k s = some s') : Mono s s' := by
  unfold opDelete at h
  split at h
  · split at h
    · rename_i hb
      split at h
      · split at h
        · cases h; exact Mono.put_note _ _ _ ⟨_, hb, trivial⟩
        · cases h; exact Mono.put_note _ _ _ ⟨_, hb, trivial⟩
        · cases h
      · cases h
    · cases h
  · cases h
theorem opDelete_ok {ts : Array TypeId} {t ty : TypeId} {m k : AV} {m' k' : Value} (ht : ts[0]? = some t) (h : opDelete P t m k s = some s') (hp : Pre ρ T s s' w) (hm : VR ρ m m') (hk : VR ρ k k') : OK1 P (Builtin.delete_ ts ty #[m', k']) ρ T s w undefA s' := by
  unfold opDelete at h
  split at h
  · rename_i kt et b hu
    split at h
    · rename_i d es clock hd hb
      split at h
      · rename_i hko
        cases hm with
        | map b r hbr =>
        split at h
        · rename_i j v0 hf
          cases h
          have hT : ∀ i, T b i := fun i => hp.cov (.all b) (List.mem_cons_self ..) (lt_n hp.wf hb) b i rfl
          obtain ⟨r0, l, q1, q2, q3⟩ := hp.good.sat b _ hb ⟨0, hT 0⟩
          have : r0 = r := Option.some.inj (q1.symm.trans hbr)
          subst this
          rcases findK_ok hd hko hk w 0 q3 hf with ⟨h2, _⟩ | ⟨j', v', e', h2, h3, h4, h5, h6, h7⟩
          · cases h2
          · cases h2
            refine ⟨ρ, _, .tuple #[], ?_, Post.alt hp.good hb trivial ⟨0, hT 0⟩ hbr (alt_set q2 (o' := .map (l.eraseIdxIfInBounds j) clock)) ⟨r0, _, hbr, (alt_set q2).here, ?_⟩, .tuple _ _ .nil⟩
            · unfold Builtin.delete_
              simp only [ht, List.getElem?_toArray, List.getElem?_cons_zero, List.getElem?_cons_succ, Sem.run_bind, run_underlying hu, Result.andThen_ok, MapKept.run_getObj_map q2, run_ck hd hko hk, run_fk hd h5, setObj_run q2, Sem.run_pure]
            · rw [Array.toList_eraseIdxIfInBounds]
              exact MR.erase j q3
        · rename_i hf
          cases h
          have hT : ∀ i, T b i := fun i => hp.cov (.all b) (List.mem_cons_self ..) (lt_n hp.wf hb) b i rfl
          obtain ⟨r0, l, q1, q2, q3⟩ := hp.good.sat b _ hb ⟨0, hT 0⟩
          have : r0 = r := Option.some.inj (q1.symm.trans hbr)
          subst this
          rcases findK_ok hd hko hk w 0 q3 hf with ⟨_, h3⟩ | ⟨j', v', e', h2, _⟩
          · refine ⟨ρ, _, .tuple #[], ?_, Post.alt hp.good hb trivial ⟨0, hT 0⟩ hbr (alt_set q2 (o' := .map l clock)) ⟨r0, _, hbr, (alt_set q2).here, q3⟩, .tuple _ _ .nil⟩
            unfold Builtin.delete_
            simp only [ht, List.getElem?_toArray, List.getElem?_cons_zero, List.getElem?_cons_succ, Sem.run_bind, run_underlying hu, Result.andThen_ok, MapKept.run_getObj_map q2, run_ck hd hko hk, run_fk hd h3, setObj_run q2, Sem.run_pure]
          · cases h2
        · cases h
      · cases h
    · cases h
  · cases h
theorem opClear_mono {t : TypeId} {x : AV} (h : opClear P t x s = some s') : Mono s s' := by
  unfold opClear at h
  split at h
  · cases h; exact Mono.refl _
  · split at h
    · split at h
      · split at h
        · cases h; exact Mono.refl _
        · exact wr_mono h
      · cases h
    · cases h
  · cases h
theorem opClear_ok {ts : Array TypeId} {t ty : TypeId} {x : AV} {x' : Value} (ht : ts[0]? = some t) (h : opClear P t x s = some s') (hp : Pre ρ T s s' w) (hx : VR ρ x x') : OK1 P (Builtin.clear_ ts ty #[x']) ρ T s w undefA s' := by
  unfold opClear at h
  split at h
  · rename_i e hu
    cases h
    cases hx
    exact OK1.pure hp (by
      unfold Builtin.clear_
      simp only [ht, List.getElem?_toArray, List.getElem?_cons_zero, Sem.run_bind, run_underlying hu, Result.andThen_ok, Sem.run_pure]) (.tuple _ _ .nil)
  · rename_i e b off len mc es hu
    split at h
    · rename_i n z hs hz
      split at h
      · rename_i hc
        obtain ⟨c1, c2, c3⟩ := hc
        cases hx with
        | slice _ _ _ _ _ r ad cap hbr h1 h2 h3 =>
        split at h
        · rename_i h0
          subst h0
          cases h
          exact OK1.pure hp (by
            unfold Builtin.clear_
            simp only [ht, List.getElem?_toArray, List.getElem?_cons_zero, Sem.run_bind, run_underlying hu, Result.andThen_ok, Sem.run_pure]) (.tuple _ _ .nil)
        · rename_i h0
          obtain ⟨q, rfl⟩ : ∃ q, len = q + 1 := ⟨len - 1, by omega⟩
          obtain ⟨e1, _⟩ := h3.resolve_left (by omega)
          subst e1
          cases hi : P.info? e with
          | none => unfold zeroC zeroA at hz; rw [hi] at hz; simp at hz
          | some i =>
            obtain ⟨zv, hz1, hz2⟩ := zeroC_info (ρ := ρ) hz hi
            have hzr : (zeroValue e).run P w = .ok zv w := by
              simp [zeroValue, run_info hi, hz1]
            have hzs := hz2.size
            have hv : VRL ρ (repL z (q + 1)) (Builtin.zeroCells zv.cells (q + 1)).toList := by
              refine VRL.of_get (by rw [repL_len, Array.length_toList]; simp [Builtin.zeroCells, hzs]) (fun i a v ha hv => ?_)
              obtain ⟨v', g1, g2⟩ := repL_ok hz2 (by omega) (q + 1) (q + 1) (Nat.le_refl _) hzs i a ha
              have : v' = v := by
                rw [Array.getElem?_toList] at hv
                have e2 : (Builtin.zeroCells zv.cells (q + 1))[i]? = some v' := by
                  unfold Builtin.zeroCells
                  rw [hzs]
                  rw [hzs] at g1
                  exact g1
                exact Option.some.inj (e2.symm.trans hv)
              rw [← this]
              exact g2
            obtain ⟨w', g1, g2⟩ := wr_ok (P := P) h hp hbr hv
            refine ⟨ρ, w', .tuple #[], ?_, g2, .tuple _ _ .nil⟩
            unfold Builtin.clear_
            simp only [ht, List.getElem?_toArray, List.getElem?_cons_zero, Sem.run_bind, run_underlying hu, Result.andThen_ok, hzr, g1, Sem.run_pure]
      · cases h
    · cases h
  · cases h
end
end Go.Proofs.YtjikgmbhnknojaaGreatDoor.Rk
