/- What the reckoner's operations say of the model's, all together. Plain lemmas. -/
import Derived.Test.YtnodnpehjbhphaaGreatDoorRkE10
namespace Go.Proofs.YtnodnpehjbhphaaGreatDoor.Rk
open Go
set_option linter.unusedVariables false
inductive DefR (ρ : Env) : DE → Deferred → Prop
  | fn (f : FuncId) (args : List AV) (cap as : Array Value) (h : VRL ρ args (as ++ cap).toList) : DefR ρ (.fn f args) { target := .fn (.func f) cap, args := as }
  | mark (b : Nat) (r : RB) (h : ρ b = some r) : DefR ρ (.mark b) { target := .collected r.blk, args := #[] }
inductive DefsR (ρ : Env) : List DE → List Deferred → Prop
  | nil : DefsR ρ [] []
  | cons (e : DE) (d : Deferred) (l : List DE) (k : List Deferred) (h : DefR ρ e d) (t : DefsR ρ l k) : DefsR ρ (e :: l) (d :: k)
theorem DefsR.mono {ρ ρ' : Env} (hr : ρ.le ρ') : ∀ {l : List DE} {k : List Deferred}, DefsR ρ l k → DefsR ρ' l k
  | _, _, .nil => .nil
  | _, _, .cons _ _ _ _ h t => .cons _ _ _ _ (by
      cases h with
      | fn f args cap as h => exact .fn f args cap as (VRL.mono hr h)
      | mark b r h => exact .mark b r (hr _ _ h)) (DefsR.mono hr t)
structure ActR (ρ : Env) (aa : AAct) (a : Act) : Prop where
  size : a.tmps.size = aa.sz
  get : ∀ t, VR ρ (aa.get t) (a.tmps.getD t undef)
  defs : DefsR ρ aa.defs a.defers
section
variable {P : Program} {ρ : Env} {T : Nat → Nat → Prop} {s s' : St} {w w' : World} {aa : AAct} {a : Act}
theorem ActR.mono {ρ' : Env} (h : ActR ρ aa a) (hr : ρ.le ρ') : ActR ρ' aa a := ⟨h.size, fun t => (h.get t).mono hr, h.defs.mono hr⟩
theorem ActR.eval (h : ActR ρ aa a) (x : Operand) : VR ρ (aeval aa x) (a.eval x) := by
  cases x with
  | tmp t => exact h.get t
  | const v => exact ofV_ok 3 v
  | global g => exact .top _
  | func f => exact .func f [] [] #[] #[] .nil .nil
theorem undef_ok : VR ρ undefA undef := .tuple [] #[] .nil
theorem ActR.putT {v : AV} {v' : Value} (h : ActR ρ aa a) (d : Tmp) (hv : VR ρ v v') : ActR ρ (aa.putT d v) { a with tmps := a.tmps.setIfInBounds d v' } := by
  unfold AAct.putT
  split
  · rename_i hd
    refine ⟨by simp [h.size], fun t => ?_, h.defs⟩
    unfold AAct.get
    rw [Tr.get_set]
    by_cases ht : t = d
    · subst ht
      rw [if_pos rfl]
      have hlt : t < a.tmps.size := by rw [h.size]; exact hd
      simpa [Array.getD_eq_getD_getElem?, Array.getElem?_setIfInBounds, hlt] using hv
    · rw [if_neg ht]
      have := h.get t
      unfold AAct.get at this
      simpa [Array.getD_eq_getD_getElem?, Array.getElem?_setIfInBounds, Ne.symm ht] using this
  · rename_i hd
    have : a.tmps.setIfInBounds d v' = a.tmps := by
      apply Array.ext_getElem?
      intro i
      rw [Array.getElem?_setIfInBounds]
      split
      · rename_i hi
        subst hi
        rw [if_neg (by rw [h.size]; exact hd), Array.getElem?_eq_none (Nat.not_lt.1 (by rw [h.size]; exact hd))]
      · rfl
    rw [this]
    exact h
theorem ActR.put {v : AV} {v' : Value} (h : ActR ρ aa a) (d : Option Tmp) (hv : VR ρ v v') : ActR ρ (aa.put d v) (a.put d v') := by
  cases d with
  | none => exact h
  | some d => exact h.putT d hv
theorem ActR.args (h : ActR ρ aa a) (xs : Array Operand) : VRL ρ (xs.toList.map (aeval aa)) (xs.map a.eval).toList := by
  rw [Array.toList_map]
  exact VRL.map _ _ _ (fun x _ => h.eval x)
theorem ActR.opt (h : ActR ρ aa a) (x : Option Operand) : VRO ρ (x.map (aeval aa)) (x.map a.eval) := by
  cases x with
  | none => exact .none
  | some x => exact .some _ _ (h.eval x)
theorem ActR.parts (h : ActR ρ aa a) (ps : Array (Nat × Operand)) : PR ρ (parts aa ps) (ps.map fun (i, x) => (i, a.eval x)).toList := by
  unfold Rk.parts
  rw [Array.toList_map]
  have : ∀ l : List (Nat × Operand), PR ρ (l.map fun p => (p.1, aeval aa p.2)) (l.map fun (i, x) => (i, a.eval x)) := by
    intro l
    induction l with
    | nil => exact .nil
    | cons p l ih => exact .cons p.1 _ _ _ _ (h.eval p.2) ih
  exact this _
theorem opRange_mono {t : TypeId} {x v : AV} (h : opRange P t x s = some (v, s')) : Mono s s' := by
  unfold opRange at h
  split at h
  · cases h; exact Mono.new _ _
  · split at h
    · rename_i es clock hm
      cases h; exact (Mono.note _ (.rd _ 0 1) ⟨.map es clock, hm, trivial⟩).trans (Mono.new _ _)
    · cases h
  · cases h
theorem opRange_ok {t : TypeId} {x v : AV} {x' : Value} (h : opRange P t x s = some (v, s')) (hp : Pre ρ T s s' w) (hx : VR ρ x x') : OK1 P (Instr.range t x') ρ T s w v s' := by
  unfold opRange at h
  split at h
  · rename_i k e hu
    cases h
    cases hx
    have hf : ρ s.n = none := hp.fresh s.n (Nat.le_refl _) (Nat.lt_succ_self _)
    refine ⟨_, _, .pointer (some ⟨w.heap.size, 0, none⟩), by simp [Instr.range, run_underlying hu], Post.made (o := .mapIter none 0 #[] 0) (r := ⟨w.heap.size, 0, 0⟩) hp.good hp.wf hf hp.tn (Add.push w _) rfl ⟨_, none, Env.add_self _ _, rfl, (Add.push w _).here, rfl⟩, ?_⟩
    exact .ptr s.n 0 _ (Env.add_self _ _)
  · rename_i k e m hu
    split at h
    · rename_i es clock hm
      cases h
      cases hx with
      | map _ r hbr =>
      have hmn := lt_n hp.wf hm
      have hT : T m 0 := hp.cov (.rd m 0 1) (List.mem_cons_self ..) hmn m 0 ⟨rfl, Nat.le_refl _, Nat.one_pos⟩
      obtain ⟨r0, l, q1, q2, q3⟩ := hp.good.sat m _ hm ⟨0, hT⟩
      have : r0 = r := Option.some.inj (q1.symm.trans hbr)
      subst this
      have hf : ρ s.n = none := hp.fresh s.n (Nat.le_refl _) (Nat.lt_succ_self _)
      have hpost : Post ρ T s w ρ (s.note (.rd m 0 1)) w := Post.same hp.good rfl rfl (Still.refl w)
      have hmn1 : Mono s (s.note (.rd m 0 1)) := Mono.note _ _ ⟨_, hm, trivial⟩
      have hpre := hp.next hmn1 (Mono.new _ (.miter (some m) clock [] clock)) hpost
      refine ⟨_, _, .pointer (some ⟨w.heap.size, 0, none⟩), by simp [Instr.range, run_underlying hu, MapKept.run_getObj_map q2], hpost.trans hmn1 (Mono.new _ _) (Post.made (o := .mapIter (some r0.blk) clock #[] clock) (r := ⟨w.heap.size, 0, 0⟩) hpre.good hpre.wf hf hpre.tn (Add.push w _) rfl ⟨_, some r0.blk, Env.add_self _ _, rfl, (Add.push w _).here, r0, Env.add_le hf _ _ hbr, rfl⟩), ?_⟩
      exact .ptr s.n 0 _ (Env.add_self _ _)
    · cases h
  · cases h
theorem opNext_mono {x v : AV} (h : opNext x s = some (v, s')) : Mono s s' := by
  unfold opNext at h
  split at h
  · split at h
    · rename_i hb
      cases h; exact Mono.note _ _ ⟨_, hb, trivial⟩
    · rename_i m0 _ _ _ hb
      split at h
      · rename_i hm
        have hnm : ∀ b0 a1 a2 a3 a4, s.heap.get b0 = some (.miter a1 a2 a3 a4) → m0 ≠ b0 := fun b0 _ _ _ _ hb e => by subst e; rw [hm] at hb; cases hb
        split at h
        · split at h
          · cases h; exact (Mono.note _ (.all _) ⟨.miter _ _ _ _, hb, trivial⟩).trans (Mono.note _ (.rd _ 0 1) ⟨.map _ _, hm, trivial⟩)
          · split at h
            · cases h; exact (Mono.put_note _ _ _ ⟨_, hb, trivial⟩).trans (Mono.note _ (.rd _ 0 1) ⟨.map _ _, by
                show (s.put _ _).heap.get m0 = _
                rw [get_put, if_neg (hnm _ _ _ _ _ hb)]; exact hm, trivial⟩)
            · cases h
          · cases h
        · cases h
      · cases h
    · cases h
  · cases h
theorem opNext_ok {x v : AV} {x' : Value} {ty : TypeId} (h : opNext x s = some (v, s')) (hp : Pre ρ T s s' w) (hx : VR ρ x x') : OK1 P (Instr.next x' false ty) ρ T s w v s' := by
  unfold opNext at h
  split at h
  · rename_i b
    cases hx with
    | ptr _ _ r hbr =>
    split at h
    · rename_i hb
      cases h
      have hT : ∀ i, T b i := fun i => hp.cov (.all b) (List.mem_cons_self ..) (lt_n hp.wf hb) b i rfl
      obtain ⟨r0, m', q1, q2, q3, q4⟩ := hp.good.sat b _ hb ⟨0, hT 0⟩
      have : r0 = r := Option.some.inj (q1.symm.trans hbr)
      subst this
      have q4 : m' = none := q4
      subst q4
      refine ⟨ρ, w, _, ?_, Post.same hp.good rfl rfl (Still.refl w), .tuple _ _ (.cons _ _ _ _ (.bool false) .nil)⟩
      simp [Instr.next, RB.at, q2, getObj, Sem.run, q3]
    · rename_i m since seen last hb
      split at h
      · rename_i es clock hm
        split at h
        · rename_i hcond
          have hmn := lt_n hp.wf hm
          have hbn := lt_n hp.wf hb
          have hlog : LE.all b ∈ s'.log ∧ LE.rd m 0 1 ∈ s'.log := by
            split at h
            · cases h; exact ⟨List.mem_cons_of_mem _ (List.mem_cons_self ..), List.mem_cons_self ..⟩
            · split at h
              · cases h; exact ⟨List.mem_cons_of_mem _ (List.mem_cons_self ..), List.mem_cons_self ..⟩
              · cases h
            · cases h
          have hT : ∀ i, T b i := fun i => hp.cov (.all b) hlog.1 hbn b i rfl
          have hTm : T m 0 := hp.cov (.rd m 0 1) hlog.2 hmn m 0 ⟨rfl, Nat.le_refl _, Nat.one_pos⟩
          obtain ⟨r0, m', q1, q2, q3, q, q5, q6⟩ := hp.good.sat b _ hb ⟨0, hT 0⟩
          have : r0 = r := Option.some.inj (q1.symm.trans hbr)
          subst this
          subst q6
          obtain ⟨rm, l, p1, p2, p3⟩ := hp.good.sat m _ hm ⟨0, hTm⟩
          have : rm = q := Option.some.inj (p1.symm.trans q5)
          subst this
          have p3 : MR ρ es l.toList := p3
          have hany := p3.any (fun b => decide (b < last))
          have hguard : (!seen.toArray.isEmpty && !l.isEmpty && l.all (fun e => decide (e.born ≥ last))) = false := by
            have e1 : l.isEmpty = es.isEmpty := by
              have := p3.len
              rw [Array.length_toList] at this
              rw [Bool.eq_iff_iff]
              simp only [Array.isEmpty_iff_size_eq_zero, List.isEmpty_iff_length_eq_zero]
              omega
            have e2 : l.all (fun e => decide (e.born ≥ last)) = !(es.any (fun e => decide (e.born < last))) := by
              rw [hany, ← Array.all_toList, List.not_any_eq_all_not]
              congr 1
              funext e
              rw [Bool.eq_iff_iff]
              simp
            rw [e1, e2]
            simp only [Bool.or_eq_true] at hcond
            rcases hcond with (h1 | h1) | h1
            · have : seen.toArray.isEmpty = true := by simpa using h1
              rw [this]; rfl
            · rw [h1]; simp
            · rw [h1]; simp
          have hleft := p3.filter (fun b => !seen.contains b)
          have hleft' : (l.filter (fun e => !seen.toArray.contains e.born)).toList = l.toList.filter (fun e => !seen.contains e.born) := by
            rw [Array.toList_filter]
            congr 1
            funext e
            simp
          have hget : (getObj r0.blk).run P w = .ok (.mapIter (some rm.blk) since seen.toArray last) w := by simp [getObj, Sem.run, q3]
          split at h
          · rename_i hnil
            cases h
            rw [hnil] at hleft
            have hl0 := hleft.inv_nil
            have hl1 : l.filter (fun e => !seen.toArray.contains e.born) = #[] := by
              apply Array.ext'
              rw [hleft', hl0]
            refine ⟨ρ, w, _, ?_, Post.same hp.good rfl rfl (Still.refl w), .tuple _ _ (.cons _ _ _ _ (.bool false) .nil)⟩
            unfold Instr.next
            simp only [RB.at, q2, Nat.add_zero, Sem.run_bind, hget, Result.andThen_ok, MapKept.run_getObj_map p2, Sem.run_ite, hguard, Bool.false_eq_true, if_false, hl1]
            simp [Question.forced]
          · rename_i e hone
            split at h
            · rename_i hborn
              cases h
              rw [hone] at hleft
              obtain ⟨e', l', hl0, g1, g2, g3, g4⟩ := hleft.inv
              have := g4.inv_nil
              subst this
              have hl1 : l.filter (fun e => !seen.toArray.contains e.born) = #[e'] := by
                apply Array.ext'
                rw [hleft', hl0]
              have hob : e'.born < since := by omega
              have hnew : (#[e'].filter fun e => decide (e.born < since)) = #[e'] := by
                apply Array.ext'
                rw [Array.toList_filter]
                simp [hob]
              have hnew2 : (#[e'].filter fun e => decide (e.born ≥ since)) = #[] := by
                apply Array.ext'
                rw [Array.toList_filter]
                simp
                omega
              have hset : (setObj r0.blk (.mapIter (some rm.blk) since (seen ++ [e'.born]).toArray clock)).run P w = .ok () { w with heap := w.heap.setIfInBounds r0.blk (.mapIter (some rm.blk) since (seen ++ [e'.born]).toArray clock) } := by simp [setObj, Sem.run, q3]
              have halt := alt_set q3 (o' := .mapIter (some rm.blk) since (seen ++ [e'.born]).toArray clock)
              have hpost := Post.alt (x' := .miter (some m) since (seen ++ [e.born]) clock) hp.good hb trivial ⟨0, hT 0⟩ hbr halt ⟨r0, some rm.blk, hbr, q2, by rw [halt.here, g3], rm, q5, rfl⟩
              refine ⟨ρ, _, .tuple #[.bool true, e'.key, e'.val], ?_, hpost.trans (Mono.put_note _ _ _ ⟨_, hb, trivial⟩) (Mono.note _ (.rd _ 0 1) ⟨.map es clock, by
                show (s.put b _).heap.get m = _
                rw [get_put, if_neg (fun e => by subst e; rw [hm] at hb; cases hb)]; exact hm, trivial⟩) (Post.same hpost.good rfl rfl (Still.refl _)), .tuple _ _ (.cons _ _ _ _ (.bool true) (.cons _ _ _ _ g1 (.cons _ _ _ _ g2 .nil)))⟩
              unfold Instr.next
              simp only [RB.at, q2, Nat.add_zero, Sem.run_bind, hget, Result.andThen_ok, MapKept.run_getObj_map p2, Sem.run_ite, hguard, Bool.false_eq_true, if_false, hl1, hnew, hnew2]
              simp [Question.forced, hset]
            · cases h
          · cases h
        · cases h
      · cases h
    · cases h
  · cases h
end
end Go.Proofs.YtnodnpehjbhphaaGreatDoor.Rk
