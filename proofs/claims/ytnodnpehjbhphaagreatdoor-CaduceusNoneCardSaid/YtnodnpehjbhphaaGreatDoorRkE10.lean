/- What the reckoner's maps say of the model's. Plain lemmas. -/
import Derived.Test.YtnodnpehjbhphaaGreatDoorRkE9
namespace Go.Proofs.YtnodnpehjbhphaaGreatDoor.Rk
open Go
set_option linter.unusedVariables false
def MR (ρ : Env) (es : List ME) (l : List MapEntry) : Prop := VRL ρ (es.map (·.k)) (l.map (·.key)) ∧ VRL ρ (es.map (·.v)) (l.map (·.val)) ∧ es.map (·.born) = l.map (·.born)
theorem MR.nil {ρ : Env} : MR ρ [] [] := ⟨.nil, .nil, rfl⟩
theorem MR.cons {ρ : Env} {e : ME} {e' : MapEntry} {es : List ME} {l : List MapEntry} (h1 : VR ρ e.k e'.key) (h2 : VR ρ e.v e'.val) (h3 : e.born = e'.born) (h : MR ρ es l) : MR ρ (e :: es) (e' :: l) :=
  ⟨.cons _ _ _ _ h1 h.1, .cons _ _ _ _ h2 h.2.1, by simp [h3, h.2.2]⟩
theorem MR.inv {ρ : Env} {e : ME} {es : List ME} {l : List MapEntry} (h : MR ρ (e :: es) l) : ∃ e' l', l = e' :: l' ∧ VR ρ e.k e'.key ∧ VR ρ e.v e'.val ∧ e.born = e'.born ∧ MR ρ es l' := by
  obtain ⟨h1, h2, h3⟩ := h
  cases l with
  | nil => cases h1
  | cons e' l' =>
    simp only [List.map_cons] at h1 h2 h3
    cases h1 with
    | cons _ _ _ _ a b => cases h2 with
      | cons _ _ _ _ c d =>
        simp only [List.cons.injEq] at h3
        exact ⟨e', l', rfl, a, c, h3.1, b, d, h3.2⟩
theorem MR.inv_nil {ρ : Env} {l : List MapEntry} (h : MR ρ [] l) : l = [] := by
  cases l with
  | nil => rfl
  | cons e l => cases h.1
theorem MR.len {ρ : Env} {es : List ME} {l : List MapEntry} (h : MR ρ es l) : l.length = es.length := by
  have := h.1.length
  simpa using this
theorem MR.filter {ρ : Env} (p : Nat → Bool) : ∀ {es : List ME} {l : List MapEntry}, MR ρ es l → MR ρ (es.filter fun e => p e.born) (l.filter fun e => p e.born)
  | [], l, h => by rw [h.inv_nil]; exact .nil
  | e :: es, l, h => by
    obtain ⟨e', l', rfl, h1, h2, h3, h4⟩ := h.inv
    have ih := MR.filter p h4
    rw [List.filter_cons, List.filter_cons, h3]
    cases p e'.born
    · simpa using ih
    · simpa using ih.cons h1 h2 h3
theorem MR.any {ρ : Env} (p : Nat → Bool) {es : List ME} {l : List MapEntry} (h : MR ρ es l) : es.any (fun e => p e.born) = l.any (fun e => p e.born) := by
  have e1 : es.any (fun e => p e.born) = (es.map (·.born)).any p := by rw [List.any_map]; rfl
  have e2 : l.any (fun e => p e.born) = (l.map (·.born)).any p := by rw [List.any_map]; rfl
  rw [e1, e2, h.2.2]
theorem MR.append {ρ : Env} : ∀ {es : List ME} {l : List MapEntry} {e : ME} {e' : MapEntry}, MR ρ es l → VR ρ e.k e'.key → VR ρ e.v e'.val → e.born = e'.born → MR ρ (es ++ [e]) (l ++ [e'])
  | [], l, e, e', h, h1, h2, h3 => by rw [h.inv_nil]; exact .cons h1 h2 h3 .nil
  | x :: es, l, e, e', h, h1, h2, h3 => by
    obtain ⟨x', l', rfl, g1, g2, g3, g4⟩ := h.inv
    exact .cons g1 g2 g3 (MR.append g4 h1 h2 h3)
theorem MR.modify {ρ : Env} {x : AV} {x' k' : Value} (hx : VR ρ x x') : ∀ {es : List ME} {l : List MapEntry} (i : Nat), MR ρ es l → (∀ e', l[i]? = some e' → e'.key = k') → MR ρ (es.modify i fun e => { e with v := x }) (l.modify i fun e => { e with key := k', val := x' })
  | [], l, i, h, _ => by rw [h.inv_nil]; simpa using MR.nil
  | e :: es, l, 0, h, hk => by
    obtain ⟨e', l', rfl, g1, g2, g3, g4⟩ := h.inv
    have := hk e' rfl
    simp only [List.modify_zero_cons]
    exact .cons (by rw [← this]; exact g1) hx g3 g4
  | e :: es, l, i + 1, h, hk => by
    obtain ⟨e', l', rfl, g1, g2, g3, g4⟩ := h.inv
    simp only [List.modify_succ_cons]
    exact .cons g1 g2 g3 (MR.modify hx i g4 (fun y hy => hk y (by simpa using hy)))
section
variable {P : Program} {ρ : Env} {T : Nat → Nat → Prop} {s s' : St} {w w' : World}
theorem ba_beq (l k : List Nat) (hl : ∀ x ∈ l, x < 256) (hk : ∀ x ∈ k, x < 256) : ((⟨(l.map UInt8.ofNat).toArray⟩ : ByteArray) == ⟨(k.map UInt8.ofNat).toArray⟩) = decide (l = k) := by
  show ((l.map UInt8.ofNat).toArray == (k.map UInt8.ofNat).toArray) = decide (l = k)
  rw [Bool.eq_iff_iff]
  simp [map_ofNat_inj hl hk]
theorem VR.str_inv {l : List Nat} {v : Value} (h : VR ρ (.str l) v) : (∀ x ∈ l, x < 256) ∧ v = .string ⟨(l.map UInt8.ofNat).toArray⟩ := by
  cases h with
  | str _ h => exact ⟨h, rfl⟩
theorem VR.int_inv {k : IntKind} {n : Int} {v : Value} (h : VR ρ (.int k n) v) : v = .int k n := by cases h; rfl
theorem findK_ok {d : TypeDesc} {k : AV} {k' : Value} (hk : keyOk d k = true) (hkk : VR ρ k k') : ∀ {es : List ME} {l : List MapEntry} (i : Nat) {r : Option (Nat × AV)}, MR ρ es l → findK k es i = some r →
    (r = none ∧ Instr.findNow d k' l i = some none) ∨ ∃ j v e', r = some (j, v) ∧ i ≤ j ∧ l[j - i]? = some e' ∧ Instr.findNow d k' l i = some (some (j, e'.val)) ∧ e'.key = k' ∧ VR ρ v e'.val
  | [], l, i, r, h, hf => by
    simp [findK] at hf
    subst hf
    rw [h.inv_nil]
    exact .inl ⟨rfl, rfl⟩
  | e :: es, l, i, r, h, hf => by
    obtain ⟨e', l', rfl, g1, g2, g3, g4⟩ := h.inv
    have hnow : ∀ b, keyEq k e.k = some b → Instr.sameNow d k' e'.key = some b ∧ (b = true → e'.key = k') := by
      intro b hb
      unfold keyEq at hb
      split at hb
      · rename_i a c he
        cases hb
        rw [he] at g1
        obtain ⟨q1, q2⟩ := g1.str_inv
        obtain ⟨q3, q4⟩ := hkk.str_inv
        rw [q2, q4]
        have hd : d = .string := by cases d <;> simp [keyOk] at hk <;> rfl
        subst hd
        refine ⟨?_, fun h => ?_⟩
        · show some _ = _
          rw [ba_beq _ _ q3 q1]
        · have := of_decide_eq_true h
          rw [this]
      · rename_i kk a jj c he
        rw [he] at g1
        have q2 := g1.int_inv
        have q4 := hkk.int_inv
        rw [q2, q4]
        have hd : ∃ m, d = .int m := by cases d <;> simp [keyOk] at hk <;> exact ⟨_, rfl⟩
        obtain ⟨m, rfl⟩ := hd
        split at hb
        · rename_i hkj
          subst hkj
          cases hb
          refine ⟨by simp [Instr.sameNow], fun h => ?_⟩
          have : a = c := by simpa using h
          rw [this]
        · cases hb
      · cases hb
    unfold findK at hf
    split at hf
    · rename_i hb
      cases hf
      obtain ⟨h1, h2⟩ := hnow true hb
      refine .inr ⟨i, e.v, e', rfl, Nat.le_refl _, by simp, ?_, h2 rfl, g2⟩
      simp [Instr.findNow, h1]
    · rename_i hb
      obtain ⟨h1, _⟩ := hnow false hb
      rcases findK_ok hk hkk (i + 1) g4 hf with ⟨h2, h3⟩ | ⟨j, v, x, h2, h3, h4, h5, h6, h7⟩
      · exact .inl ⟨h2, by simp [Instr.findNow, h1, h3]⟩
      · refine .inr ⟨j, v, x, h2, by omega, ?_, by simp [Instr.findNow, h1, h5], h6, h7⟩
        rw [show j - i = (j - (i + 1)) + 1 by omega, List.getElem?_cons_succ]
        exact h4
    · cases hf
theorem run_ck {d : TypeDesc} {kt : TypeId} {k : AV} {k' : Value} (hd : P.underlying kt = some d) (hk : keyOk d k = true) (hkk : VR ρ k k') (e : Bool) (w : World) : (Instr.checkKey e 10000 kt k').run P w = .ok () w := by
  show (Instr.checkKey e (9999 + 1) kt k').run P w = .ok () w
  unfold Instr.checkKey
  rw [Sem.run_bind, run_underlying hd]
  cases d <;> simp [keyOk] at hk <;> cases hkk <;> first | rfl | simp at hk
theorem run_fk {d : TypeDesc} {kt : TypeId} {k' : Value} {l : List MapEntry} {r : Option (Nat × Value)} (hd : P.underlying kt = some d) (h : Instr.findNow d k' l 0 = some r) (w : World) : (Instr.findKey kt k' l).run P w = .ok r w := by
  simp [Instr.findKey, run_underlying hd, h]
theorem mapA_mono {x : AV} {es : List ME} {s1 : St} (h : mapA x s = some (es, s1)) : Mono s s1 ∧ s1.heap = s.heap ∧ s1.n = s.n := by
  unfold mapA at h
  split at h
  · cases h; exact ⟨Mono.refl _, rfl, rfl⟩
  · split at h
    · rename_i hb
      cases h; exact ⟨Mono.note _ _ ⟨_, hb, trivial⟩, rfl, rfl⟩
    · cases h
  · cases h
theorem mapA_ok {x : AV} {x' : Value} {es : List ME} {s1 : St} (h : mapA x s = some (es, s1)) (hp : Pre ρ T s s1 w) (hx : VR ρ x x') :
    (x' = .map none ∧ es = []) ∨ ∃ r l clock, x' = .map (some r) ∧ w.heap[r]? = some (.map l clock) ∧ MR ρ es l.toList := by
  unfold mapA at h
  split at h
  · cases h; cases hx; exact .inl ⟨rfl, rfl⟩
  · rename_i b
    split at h
    · rename_i es0 clock hb
      cases h
      cases hx with
      | map b r hbr =>
      have hT : T b 0 := hp.cov (.rd b 0 1) (List.mem_cons_self ..) (lt_n hp.wf hb) b 0 ⟨rfl, Nat.le_refl _, Nat.one_pos⟩
      obtain ⟨r0, l, q1, q2, q3⟩ := hp.good.sat b _ hb ⟨0, hT⟩
      have : r0 = r := Option.some.inj (q1.symm.trans hbr)
      subst this
      exact .inr ⟨r0.blk, l, clock, rfl, q2, q3⟩
    · cases h
  · cases h
theorem opLookup_mono {t : TypeId} {x i v : AV} {ok : Bool} (h : opLookup P t x i ok s = some (v, s')) : Mono s s' := by
  unfold opLookup at h
  split at h
  · split at h
    · rename_i hm
      obtain ⟨h1, h2, h3⟩ := mapA_mono hm
      split at h
      · split at h
        · cases h; exact h1
        · split at h
          · cases h; exact h1
          · cases h
        · cases h
      · cases h
    · cases h
  · cases h
theorem opLookup_ok {t : TypeId} {x i v : AV} {x' i' : Value} {ok : Bool} (h : opLookup P t x i ok s = some (v, s')) (hp : Pre ρ T s s' w) (hx : VR ρ x x') (hi : VR ρ i i') : OK1 P (Instr.lookup t x' i' ok) ρ T s w v s' := by
  unfold opLookup at h
  split at h
  · rename_i kt e hu
    split at h
    · rename_i d es s1 hd hm
      obtain ⟨m1, m2, m3⟩ := mapA_mono hm
      split at h
      · rename_i hk
        have hs1 : s1 = s' := by
          split at h
          · cases h; rfl
          · split at h
            · cases h; rfl
            · cases h
          · cases h
        subst hs1
        have hpost : Post ρ T s w ρ s1 w := Post.same hp.good m2 m3 (Still.refl w)
        have hes : ∃ l : Array MapEntry, MR ρ es l.toList ∧ ((x' = .map none ∧ l = #[]) ∨ ∃ r clock, x' = .map (some r) ∧ w.heap[r]? = some (.map l clock)) := by
          rcases mapA_ok hm hp hx with ⟨rfl, rfl⟩ | ⟨r, l, clock, rfl, h2, h3⟩
          · exact ⟨#[], MR.nil, .inl ⟨rfl, rfl⟩⟩
          · exact ⟨l, h3, .inr ⟨r, clock, rfl, h2⟩⟩
        obtain ⟨l, hmr, hx'⟩ := hes
        split at h
        · rename_i j v0 hf
          cases h
          rcases findK_ok hk hi 0 hmr hf with ⟨h2, _⟩ | ⟨j', v', e', h2, h3, h4, h5, h6, h7⟩
          · cases h2
          · cases h2
            refine ⟨ρ, w, if ok then .tuple #[e'.val, .bool true] else e'.val, ?_, hpost, ?_⟩
            · rcases hx' with ⟨rfl, rfl⟩ | ⟨r, clock, rfl, hr⟩
              · simp at h4
              · unfold Instr.lookup
                simp only [Sem.run_bind, run_underlying hu, Result.andThen_ok, MapKept.run_getObj_map hr, Sem.run_pure, run_ck hd hk hi, run_fk hd h5]
            · cases ok
              · exact h7
              · exact .tuple _ _ (.cons _ _ _ _ h7 (.cons _ _ _ _ (.bool _) .nil))
        · rename_i hf
          split at h
          · rename_i z hz
            cases h
            obtain ⟨zv, hz1, _, hz3⟩ := run_zero (ρ := ρ) hz w
            rcases findK_ok hk hi 0 hmr hf with ⟨_, h3⟩ | ⟨j', v', e', h2, _⟩
            · refine ⟨ρ, w, if ok then .tuple #[zv, .bool false] else zv, ?_, hpost, ?_⟩
              · rcases hx' with ⟨rfl, rfl⟩ | ⟨r, clock, rfl, hr⟩
                · unfold Instr.lookup
                  simp only [Sem.run_bind, run_underlying hu, Result.andThen_ok, Sem.run_pure, run_ck hd hk hi, run_fk hd h3, hz1]
                · unfold Instr.lookup
                  simp only [Sem.run_bind, run_underlying hu, Result.andThen_ok, MapKept.run_getObj_map hr, Sem.run_pure, run_ck hd hk hi, run_fk hd h3, hz1]
              · cases ok
                · exact hz3
                · exact .tuple _ _ (.cons _ _ _ _ hz3 (.cons _ _ _ _ (.bool _) .nil))
            · cases h2
          · cases h
        · cases h
      · cases h
    · cases h
  · cases h
theorem opUpdate_mono {t : TypeId} {m k x : AV} (h : opUpdate P t m k x s = some s') : Mono s s' := by
  unfold opUpdate at h
  split at h
  · split at h
    · rename_i hb
      split at h
      · split at h
        · cases h; exact Mono.put_note _ _ _ ⟨_, hb, trivial⟩
        · cases h; exact Mono.put_note _ _ _ ⟨_, hb, trivial⟩
        · cases h
      · cases h
    · cases h
  · cases h
theorem alt_set {B : Nat} {o o' : Obj} (h : w.heap[B]? = some o) : Alt w { w with heap := w.heap.setIfInBounds B o' } B o' :=
  ⟨rfl, rfl, rfl, by simp, by have := lt_of_some h; simp [this], fun B' hB => by simp [Array.getElem?_setIfInBounds, Ne.symm hB]⟩
theorem setObj_run {B : Nat} {l : Array MapEntry} {c : Nat} {o' : Obj} (h : w.heap[B]? = some (.map l c)) : (setObj B o').run P w = .ok () { w with heap := w.heap.setIfInBounds B o' } := MapKept.run_setObj_map o' h
theorem opUpdate_ok {t : TypeId} {m k x : AV} {m' k' x' : Value} (h : opUpdate P t m k x s = some s') (hp : Pre ρ T s s' w) (hm : VR ρ m m') (hk : VR ρ k k') (hx : VR ρ x x') : ∃ w', (Instr.mapUpdate t m' k' x').run P w = .ok () w' ∧ Post ρ T s w ρ s' w' := by
  unfold opUpdate at h
  split at h
  · rename_i kt et b hu
    split at h
    · rename_i d es clock hd hb
      split at h
      · rename_i hko
        cases hm with
        | map b r hbr =>
        split at h
        · rename_i j v0 hf
          cases h
          have hT : ∀ i, T b i := fun i => hp.cov (.all b) (List.mem_cons_self ..) (lt_n hp.wf hb) b i rfl
          obtain ⟨r0, l, q1, q2, q3⟩ := hp.good.sat b _ hb ⟨0, hT 0⟩
          have : r0 = r := Option.some.inj (q1.symm.trans hbr)
          subst this
          rcases findK_ok hko hk 0 q3 hf with ⟨h2, _⟩ | ⟨j', v', e', h2, h3, h4, h5, h6, h7⟩
          · cases h2
          · cases h2
            rw [Nat.sub_zero, Array.getElem?_toList] at h4
            refine ⟨_, ?_, Post.alt hp.good hb trivial ⟨0, hT 0⟩ hbr (alt_set q2 (o' := .map (l.modify j fun e => { e with key := k', val := x' }) clock)) ⟨r0, _, hbr, (alt_set q2).here, ?_⟩⟩
            · have hkey : (((l[j]?).map (·.key)).getD k') = k' := by rw [h4]; exact h6
              have hst : (Instr.keyThatStays k' k').run P w = .ok k' w := by
                have hsb : Instr.sameBits 10000 k' k' = true := by
                  cases hk <;> first | (simp [keyOk] at hko; done) | skip
                  all_goals (cases d <;> simp [keyOk] at hko)
                  · show (decide (_ = _) && (_ == _)) = true
                    simp
                  · show ((_ : ByteArray) == _) = true
                    rename_i lk hlk
                    rw [ba_beq lk lk hlk hlk]
                    simp
                simp [Instr.keyThatStays, hsb]
              unfold Instr.mapUpdate
              rw [Sem.run_bind, run_underlying hu]
              simp only [Result.andThen_ok, Sem.run_bind, MapKept.run_getObj_map q2, run_ck hd hko hk, run_fk hd h5, hkey, hst, setObj_run q2]
            · have := MR.modify hx j q3 (fun y hy => by
                rw [Array.getElem?_toList, h4] at hy
                cases hy
                exact h6)
              rw [Array.toList_modify]
              exact this
        · rename_i hf
          cases h
          have hT : ∀ i, T b i := fun i => hp.cov (.all b) (List.mem_cons_self ..) (lt_n hp.wf hb) b i rfl
          obtain ⟨r0, l, q1, q2, q3⟩ := hp.good.sat b _ hb ⟨0, hT 0⟩
          have : r0 = r := Option.some.inj (q1.symm.trans hbr)
          subst this
          rcases findK_ok hko hk 0 q3 hf with ⟨_, h3⟩ | ⟨j', v', e', h2, _⟩
          · refine ⟨_, ?_, Post.alt hp.good hb trivial ⟨0, hT 0⟩ hbr (alt_set q2 (o' := .map (l.push { key := k', val := x', born := clock }) (clock + 1))) ⟨r0, _, hbr, (alt_set q2).here, ?_⟩⟩
            · unfold Instr.mapUpdate
              rw [Sem.run_bind, run_underlying hu]
              simp only [Result.andThen_ok, Sem.run_bind, MapKept.run_getObj_map q2, run_ck hd hko hk, run_fk hd h3, setObj_run q2]
            · rw [Array.toList_push]
              exact MR.append q3 hk hx rfl
          · cases h2
        · cases h
      · cases h
    · cases h
  · cases h
end
end Go.Proofs.YtnodnpehjbhphaaGreatDoor.Rk
