/- What the reckoner's makings of blocks say of the model's. Plain lemmas. -/
import Derived.Test.YtnodnpehjbhphaaGreatDoorRkE5
namespace Go.Proofs.YtnodnpehjbhphaaGreatDoor.Rk
open Go
set_option linter.unusedVariables false
theorem foldl_set (off : Nat) : ∀ (l : List Value) (k : Nat) (arr : Array Value), off + k + l.length ≤ arr.size →
    ((l.zipIdx k).foldl (fun cs (x : Value × Nat) => cs.setIfInBounds (off + x.2) x.1) arr).size = arr.size ∧ ∀ i, ((l.zipIdx k).foldl (fun cs (x : Value × Nat) => cs.setIfInBounds (off + x.2) x.1) arr)[i]? = if off + k ≤ i ∧ i < off + k + l.length then l[i - (off + k)]? else arr[i]?
  | [], k, arr, h => by
    simp only [List.zipIdx_nil, List.foldl_nil]
    exact ⟨trivial, fun i => by rw [if_neg (by simp only [List.length_nil]; omega)]⟩
  | v :: l, k, arr, h => by
    simp only [List.length_cons] at h
    obtain ⟨h1, h2⟩ := foldl_set off l (k + 1) (arr.setIfInBounds (off + k) v) (by simp; omega)
    simp only [List.zipIdx_cons, List.foldl_cons]
    refine ⟨by rw [h1]; simp, fun i => ?_⟩
    rw [h2]
    by_cases hi : off + (k + 1) ≤ i ∧ i < off + (k + 1) + l.length
    · rw [if_pos hi, if_pos (by simp only [List.length_cons]; omega), show i - (off + k) = (i - (off + (k + 1))) + 1 by omega, List.getElem?_cons_succ]
    · rw [if_neg hi]
      by_cases hik : i = off + k
      · subst hik
        rw [if_pos (by simp only [List.length_cons]; omega), Nat.sub_self, List.getElem?_cons_zero, Array.getElem?_setIfInBounds, if_pos rfl, if_pos (by omega)]
      · rw [if_neg (by simp only [List.length_cons]; omega), Array.getElem?_setIfInBounds, if_neg (Ne.symm hik)]
theorem VRL.size {ρ : Env} {l : List AV} {a : Array Value} (h : VRL ρ l a.toList) : a.size = l.length := by
  have := h.length
  rwa [Array.length_toList] at this
theorem VRL.aget {ρ : Env} {l : List AV} {a : Array Value} {i : Nat} {x : AV} (h : VRL ρ l a.toList) (hx : l[i]? = some x) : ∃ v, a[i]? = some v ∧ VR ρ x v := by
  have := h.get i hx
  simpa using this
/-- Two lists of parts. -/
inductive PR (ρ : Env) : List (Nat × AV) → List (Nat × Value) → Prop
  | nil : PR ρ [] []
  | cons (i : Nat) (x : AV) (v : Value) (l : List (Nat × AV)) (k : List (Nat × Value)) (h : VR ρ x v) (t : PR ρ l k) : PR ρ ((i, x) :: l) ((i, v) :: k)
theorem fill_ok {ρ : Env} {place : Nat → Option (Nat × Nat)} : ∀ {ps : List (Nat × AV)} {ps' : List (Nat × Value)} {cells r : List AV} {cells' : Array Value}, fillA place cells ps = some r → PR ρ ps ps' → VRL ρ cells cells'.toList →
    ∃ r', Instr.fill place cells' ps' = some r' ∧ VRL ρ r r'.toList
  | [], _, cells, r, cells', h, .nil, hc => by simp [fillA] at h; subst h; exact ⟨cells', rfl, hc⟩
  | (i, x) :: l, _, cells, r, cells', h, .cons _ _ v _ k hv ht, hc => by
    unfold fillA at h
    split at h
    · rename_i off size hpl
      split at h
      · rename_i c hcx
        split at h
        · rename_i hlen
          split at h
          · rename_i c2 hset
            obtain ⟨s1, s2, s3⟩ := setL_ok hset
            have hvc := cells_ok hv hcx
            have hsz := hvc.size
            have hcs := hc.size
            have s3 := s3.resolve_left (fun e => by subst e; simp at hlen; omega)
            have hb : off + v.cells.size ≤ cells'.size := by omega
            have hf := foldl_set off v.cells.toList 0 cells' (by simpa using hb)
            have hz : v.cells.zipIdx.foldl (fun cs (x : Value × Nat) => cs.setIfInBounds (off + x.2) x.1) cells' = (v.cells.toList.zipIdx 0).foldl (fun cs (x : Value × Nat) => cs.setIfInBounds (off + x.2) x.1) cells' := by
              rw [← Array.foldl_toList, Array.toList_zipIdx]
            have hvr : VRL ρ c2 (v.cells.zipIdx.foldl (fun cs (x : Value × Nat) => cs.setIfInBounds (off + x.2) x.1) cells').toList := by
              rw [hz]
              refine VRL.of_get (by rw [Array.length_toList, hf.1, s1, hcs]) (fun j a u ha hu => ?_)
              rw [Array.getElem?_toList, hf.2] at hu
              rw [s2] at ha
              by_cases hj : off ≤ j ∧ j < off + c.length
              · rw [if_pos hj] at ha
                rw [if_pos (by rw [Array.length_toList]; omega)] at hu
                obtain ⟨u', hu', hR⟩ := hvc.get _ ha
                rw [show j - (off + 0) = j - off by omega, hu'] at hu
                cases hu
                exact hR
              · rw [if_neg hj] at ha
                rw [if_neg (by rw [Array.length_toList]; omega)] at hu
                obtain ⟨u', hu', hR⟩ := hc.aget ha
                rw [hu'] at hu
                cases hu
                exact hR
            obtain ⟨r', h1, h2⟩ := fill_ok h ht hvr
            refine ⟨r', ?_, h2⟩
            unfold Instr.fill
            simp only [hpl]
            rw [if_neg (by simp only [Bool.or_eq_true, decide_eq_true_eq]; omega)]
            exact h1
          · cases h
        · cases h
      · cases h
    · cases h
theorem repL_get (z : List AV) : ∀ (n i : Nat), i < n * z.length → (repL z n)[i]? = z[i % z.length]?
  | 0, i, h => by simp at h
  | n + 1, i, h => by
    unfold repL
    rw [Nat.add_mul] at h
    by_cases hi : i < z.length
    · rw [List.getElem?_append_left hi, Nat.mod_eq_of_lt hi]
    · rw [List.getElem?_append_right (by omega), repL_get z n _ (by omega)]
      congr 1
      exact (Nat.mod_eq_sub_mod (by omega)).symm
theorem repL_len (z : List AV) : ∀ n : Nat, (repL z n).length = n * z.length
  | 0 => by simp [repL]
  | n + 1 => by unfold repL; rw [List.length_append, repL_len z n, Nat.add_mul]; omega
theorem repL_ok {ρ : Env} {z : List AV} {zero : Array Value} (h : VRL ρ z zero.toList) (hz : 0 < z.length) (n m : Nat) (hm : n ≤ m) (hs : zero.size = z.length) :
    ∀ (i : Nat) (a : AV), (repL z n)[i]? = some a → ∃ v, ((Array.range (m * z.length)).map (fun i => zero[i % zero.size]!))[i]? = some v ∧ VR ρ a v := by
  intro i a ha
  have hi : i < n * z.length := by
    have := (List.getElem?_eq_some_iff.1 ha).1
    rwa [repL_len] at this
  rw [repL_get z n i hi] at ha
  obtain ⟨v, hv, hR⟩ := h.aget ha
  have hle : n * z.length ≤ m * z.length := Nat.mul_le_mul_right _ hm
  refine ⟨v, ?_, hR⟩
  have hmod : i % zero.size < zero.size := Nat.mod_lt _ (by omega)
  rw [Array.getElem?_map, Array.getElem?_eq_getElem (by simp; omega)]
  simp only [Array.getElem_range, Option.map_some, Option.some.injEq]
  rw [hs] at hmod ⊢
  rw [getElem!_pos zero (i % z.length) (by omega)]
  rw [Array.getElem?_eq_getElem (by omega)] at hv
  exact Option.some.inj hv
section
variable {P : Program} {ρ : Env} {T : Nat → Nat → Prop} {s s' : St} {w w' : World}
theorem run_row (e : TypeId) (c : Array Value) (w : World) : (newRow e c).run P w = .ok ⟨w.heap.size, 0, none⟩ { w with heap := w.heap.push (.cells c e) } := rfl
/-- A row that has been made. -/
theorem made_ok {e : TypeId} {cs : List AV} {c : Array Value} {fr : Nat × Nat} (hp : Pre ρ T s (s.new (.cells (2 * e) cs)) w) (hw : Add w w' (.cells c e fr)) (hfr : ∀ o, o < c.size → (decide (fr.1 ≤ o) && decide (o < fr.2)) = false) (hl : cs.length ≤ c.size)
    (hv : ∀ (i : Nat) (a : AV), cs[i]? = some a → ∃ v, c[i]? = some v ∧ VR ρ a v) : Post ρ T s w (ρ.add s.n ⟨w.heap.size, 0, c.size⟩) (s.new (.cells (2 * e) cs)) w' := by
  have hf : ρ s.n = none := hp.fresh s.n (Nat.le_refl _) (Nat.lt_succ_self _)
  refine Post.made hp.good hp.wf hf hp.tn hw rfl ⟨⟨w.heap.size, 0, c.size⟩, c, fr, Env.add_self _ _, (by rw [two_half]; exact hw.here), by simp, Fits.even e hl, fun o _ h => hfr o h, fun i a ha _ => ?_⟩
  obtain ⟨v, h1, h2⟩ := hv i a ha
  exact ⟨v, by simpa using h1, h2.mono (Env.add_le hf)⟩
theorem made_ptr {e : TypeId} {cs : List AV} {c : Array Value} {m : Sem Value} (hp : Pre ρ T s (s.new (.cells (2 * e) cs)) w) (hm : m.run P w = .ok (.pointer (some ⟨w.heap.size, 0, none⟩)) { w with heap := w.heap.push (.cells c e) }) (hv : VRL ρ cs c.toList) : OK1 P m ρ T s w (.ptr s.n 0) (s.new (.cells (2 * e) cs)) :=
  ⟨_, _, _, hm, made_ok hp (Add.push w _) (fun o _ => by simp) (by rw [hv.size]; exact Nat.le_refl _) (fun i a h => hv.aget h), .ptr s.n 0 _ (Env.add_self _ _)⟩
theorem made_ptr1 {e : TypeId} {cs : List AV} {c : Array Value} {m : Sem Value} (hp : Pre ρ T s (s.new (.cells (2 * e + 1) cs)) w) (hm : m.run P w = .ok (.pointer (some ⟨w.heap.size, 0, none⟩)) { w with heap := w.heap.push (.cells c e) }) (hv : VRL ρ cs c.toList) : OK1 P m ρ T s w (.ptr s.n 0) (s.new (.cells (2 * e + 1) cs)) :=
  have hf : ρ s.n = none := hp.fresh s.n (Nat.le_refl _) (Nat.lt_succ_self _)
  ⟨_, _, _, hm, Post.made hp.good hp.wf hf hp.tn (Add.push w _) rfl ⟨⟨w.heap.size, 0, c.size⟩, c, (0, 0), Env.add_self _ _, (by rw [two_half1]; exact (Add.push w (.cells c e)).here), by simp, ⟨by rw [hv.size]; exact Nat.le_refl _, fun _ => ⟨rfl, hv.size⟩⟩, fun o _ h => by simp, fun i a ha _ => by
    obtain ⟨v, h1, h2⟩ := hv.aget ha
    exact ⟨v, by simpa using h1, h2.mono (Env.add_le hf)⟩⟩, .ptr s.n 0 _ (Env.add_self _ _)⟩
theorem made_slice {e : TypeId} {cs : List AV} {c : Array Value} {m : Sem Value} {len cap mc es : Nat} (hp : Pre ρ T s (s.new (.cells (2 * e) cs)) w) (hm : m.run P w = .ok (.slice (some ⟨w.heap.size, 0, none⟩) len cap) { w with heap := w.heap.push (.cells c e) })
    (hl : cs.length ≤ c.size) (hv : ∀ (i : Nat) (a : AV), cs[i]? = some a → ∃ v, c[i]? = some v ∧ VR ρ a v) (h1 : len ≤ mc) (h2 : mc ≤ cap) (h3 : cap * es ≤ c.size) : OK1 P m ρ T s w (.slice s.n 0 len mc es) (s.new (.cells (2 * e) cs)) :=
  ⟨_, _, _, hm, made_ok hp (Add.push w _) (fun o _ => by simp) hl hv, .slice s.n 0 len mc es _ _ _ (Env.add_self _ _) h1 h2 (.inr ⟨rfl, by simpa using h3⟩)⟩
theorem zeroC_ok {t : TypeId} {z : List AV} (h : zeroC P t = some z) (w : World) : ∃ v, (zeroValue t).run P w = .ok v w ∧ VRL ρ z v.cells.toList := by
  unfold zeroC at h
  cases hz : zeroA P t with
  | none => rw [hz] at h; cases h
  | some a =>
    rw [hz] at h
    obtain ⟨v, h1, _, h3⟩ := run_zero (ρ := ρ) hz w
    exact ⟨v, h1, cells_ok h3 h⟩
theorem opAlloc_ok {t : TypeId} {z : List AV} (h : zeroC P t = some z) (hp : Pre ρ T s (s.new (.cells (2 * t + 1) z)) w) : OK1 P (Instr.alloc t true (.tuple #[])) ρ T s w (.ptr s.n 0) (s.new (.cells (2 * t + 1) z)) := by
  obtain ⟨v, h1, h2⟩ := zeroC_ok (ρ := ρ) h w
  exact made_ptr1 hp (by simp [Instr.alloc, h1, newVar, run_row]) h2
theorem opBox_ok {t : TypeId} {x : AV} {x' : Value} {c : List AV} (h : cellsA x = some c) (hp : Pre ρ T s (s.new (.cells (2 * t) c)) w) (hx : VR ρ x x') : OK1 P (Instr.box t x') ρ T s w (.ptr s.n 0) (s.new (.cells (2 * t) c)) :=
  made_ptr hp (by simp [Instr.box, newVar, run_row]) (cells_ok hx h)
theorem opBuildSlice_mono {t : TypeId} {len : Nat} {ps : List (Nat × AV)} {v : AV} (h : opBuildSlice P t len ps s = some (v, s')) : Mono s s' := by
  unfold opBuildSlice at h
  split at h
  · split at h
    · split at h
      · split at h
        · cases h; exact Mono.new _ _
        · cases h
      · cases h
    · cases h
  · cases h
theorem opBuildSlice_ok {t : TypeId} {len : Nat} {ps : List (Nat × AV)} {ps' : Array (Nat × Value)} {v : AV} (h : opBuildSlice P t len ps s = some (v, s')) (hp : Pre ρ T s s' w) (hx : PR ρ ps ps'.toList) : OK1 P (Instr.buildSlice t len ps') ρ T s w v s' := by
  unfold opBuildSlice at h
  split at h
  · rename_i e hu
    split at h
    · rename_i n z hs hz
      split at h
      · rename_i hc
        obtain ⟨hc1, hc2, hc3⟩ := hc
        split at h
        · rename_i cs hf
          cases h
          obtain ⟨zv, hz1, hz2⟩ := zeroC_ok (ρ := ρ) hz w
          have hzs := hz2.size
          have hrep := repL_ok hz2 (by omega) len len (Nat.le_refl _) hzs
          rw [hc3] at hrep hzs
          have hbase : VRL ρ (repL z len) ((Array.range (len * n)).map (fun i => zv.cells[i % zv.cells.size]!)).toList := by
            refine VRL.of_get (by rw [Array.length_toList, repL_len, hc3]; simp) (fun i a v ha hv => ?_)
            obtain ⟨u, hu1, hR⟩ := hrep i a ha
            rw [Array.getElem?_toList, hu1] at hv
            cases hv
            exact hR
          obtain ⟨r', hr1, hr2⟩ := fill_ok hf hx hbase
          have hln : cs.length = len * n := by
            have h0 : ∀ {ps : List (Nat × AV)} {cells r : List AV} {place : Nat → Option (Nat × Nat)}, fillA place cells ps = some r → r.length = cells.length := by
              intro ps
              induction ps with
              | nil => intro cells r place h; simp [fillA] at h; subst h; rfl
              | cons p l ih =>
                intro cells r place h
                obtain ⟨i, x⟩ := p
                unfold fillA at h
                split at h
                · split at h
                  · split at h
                    · split at h
                      · rename_i hset
                        rw [ih h, (setL_ok hset).1]
                      · cases h
                    · cases h
                  · cases h
                · cases h
            rw [h0 hf, repL_len, hc3]
          have hrs := hr2.size
          refine made_slice hp (c := r') ?_ (by omega) (fun i a ha => hr2.aget ha) (Nat.le_refl _) (Nat.le_refl _) (by omega)
          have hmod : (fun x => zv.cells[x % n]!) = fun i => zv.cells[i % zv.cells.size]! := by rw [hzs]
          have hnot : ¬ len * n > 2 ^ 24 := by omega
          unfold Instr.buildSlice
          simp only [Sem.run_bind, run_underlying hu, Result.andThen_ok, run_szOf hs, Sem.run_ite, if_neg hnot, Sem.run_pure]
          by_cases h0 : len * n = 0
          · have hl0 : len = 0 := by
              rcases Nat.mul_eq_zero.1 h0 with h | h <;> omega
            subst hl0
            simp only [Nat.zero_mul, if_true, Result.andThen_ok]
            have : ((Array.range 0).map (fun x => (#[] : Array Value)[x % (#[] : Array Value).size]!)) = ((Array.range (0 * n)).map (fun i => zv.cells[i % zv.cells.size]!)) := by simp
            rw [this, hr1]
            simp [run_row]
          · simp only [if_neg h0, hz1, Result.andThen_ok, Sem.run_map, Sem.run_bind, Sem.run_pure]
            rw [hr1]
            simp [run_row]
        · cases h
      · cases h
    · cases h
  · cases h
end
end Go.Proofs.YtnodnpehjbhphaaGreatDoor.Rk
