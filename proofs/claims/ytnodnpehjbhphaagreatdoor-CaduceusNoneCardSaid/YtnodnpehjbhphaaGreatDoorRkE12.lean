/- What one of the reckoner's operations says of the model's. Plain lemmas. -/
import Derived.Test.YtnodnpehjbhphaaGreatDoorRkE11
import Derived.Test.YtnodnpehjbhphaaGreatDoorRkEU
namespace Go.Proofs.YtnodnpehjbhphaaGreatDoor.Rk
open Go
set_option linter.unusedVariables false
section
variable {P : Program} {ρ : Env} {T : Nat → Nat → Prop} {s s' : St} {w w' : World} {aa : AAct} {a : Act}
theorem lenA_mono {d : Option TypeDesc} {x v : AV} (h : lenA P d x s = some (v, s')) : Mono s s' := by
  unfold lenA at h
  split at h
  case h_5 =>
    split at h
    · rename_i hb
      cases h; exact Mono.note _ _ ⟨_, hb, trivial⟩
    · cases h
  case h_7 =>
    split at h
    · cases h; exact Mono.refl _
    · cases h
  all_goals first | (cases h; done) | (cases h; exact Mono.refl _)
theorem lenA_ok {ts : Array TypeId} {t ty : TypeId} {x v : AV} {x' : Value} (ht : ts[0]? = some t) (h : lenA P (P.underlying t) x s = some (v, s')) (hp : Pre ρ T s s' w) (hx : VR ρ x x') : OK1 P (Builtin.len_ ts ty #[x']) ρ T s w v s' := by
  unfold lenA at h
  split at h
  · rename_i l hu
    cases h
    cases hx with
    | str _ hl => exact OK1.pure hp (v' := .int .i64 l.length) (by simp only [Builtin.len_, ht, List.getElem?_toArray, List.getElem?_cons_zero, Sem.run_bind, run_underlying hu, Result.andThen_ok, Sem.run_pure, str_size, goInt]) (.int _ _)
  · rename_i e hu
    cases h
    cases hx
    exact OK1.pure hp (v' := .int .i64 0) (by simp only [Builtin.len_, ht, List.getElem?_toArray, List.getElem?_cons_zero, Sem.run_bind, run_underlying hu, Result.andThen_ok, Sem.run_pure, goInt]; rfl) (.int _ _)
  · rename_i e b off n mc es hu
    cases h
    cases hx
    exact OK1.pure hp (v' := .int .i64 n) (by simp only [Builtin.len_, ht, List.getElem?_toArray, List.getElem?_cons_zero, Sem.run_bind, run_underlying hu, Result.andThen_ok, Sem.run_pure, goInt]) (.int _ _)
  · rename_i k e hu
    cases h
    cases hx
    exact OK1.pure hp (v' := .int .i64 0) (by simp only [Builtin.len_, ht, List.getElem?_toArray, List.getElem?_cons_zero, Sem.run_bind, run_underlying hu, Result.andThen_ok, Sem.run_pure, goInt]) (.int _ _)
  · rename_i k e b hu
    split at h
    · rename_i es clock hb
      cases h
      cases hx with
      | map _ r hbr =>
      have hT : T b 0 := hp.cov (.rd b 0 1) (List.mem_cons_self ..) (lt_n hp.wf hb) b 0 ⟨rfl, Nat.le_refl _, Nat.one_pos⟩
      obtain ⟨r0, l, q1, q2, q3⟩ := hp.good.sat b _ hb ⟨0, hT⟩
      have : r0 = r := Option.some.inj (q1.symm.trans hbr)
      subst this
      have q3 : MR ρ es l.toList := q3
      have hl := q3.len
      rw [Array.length_toList] at hl
      refine ⟨ρ, w, .int .i64 es.length, ?_, Post.same hp.good rfl rfl (Still.refl w), .int _ _⟩
      simp only [Builtin.len_, ht, List.getElem?_toArray, List.getElem?_cons_zero, Sem.run_bind, run_underlying hu, Result.andThen_ok, MapKept.run_getObj_map q2, Sem.run_pure, goInt, hl]
    · cases h
  · rename_i _ n e hu
    cases h
    exact OK1.pure hp (v' := .int .i64 n) (by simp only [Builtin.len_, ht, List.getElem?_toArray, List.getElem?_cons_zero, Sem.run_bind, run_underlying hu, Result.andThen_ok, Sem.run_pure, goInt]) (.int _ _)
  · rename_i u _ hu
    split at h
    · rename_i n e hu2
      cases h
      exact OK1.pure hp (v' := .int .i64 n) (by simp only [Builtin.len_, ht, List.getElem?_toArray, List.getElem?_cons_zero, Sem.run_bind, run_underlying hu, run_underlying hu2, Result.andThen_ok, Sem.run_pure, goInt]) (.int _ _)
    · cases h
  · cases h
theorem foldMin_ok : ∀ {l : List AV} {vs : List Value} {x : AV} {x' : Value} {v : AV}, foldA minA x l = some v → VR ρ x x' → VRL ρ l vs → ∃ v', (vs.foldlM Builtin.min2 x').run P w = .ok v' w ∧ VR ρ v v'
  | [], _, x, x', v, h, hx, .nil => by simp [foldA] at h; subst h; exact ⟨x', rfl, hx⟩
  | y :: l, _, x, x', v, h, hx, .cons _ y' _ vs hy ht => by
    unfold foldA at h
    split at h
    · rename_i z hz
      unfold minA at hz
      split at hz
      · cases hz; cases hx; cases hy
        obtain ⟨v', h1, h2⟩ := foldMin_ok h (.int _ _) ht
        exact ⟨v', by simp [Builtin.min2, h1], h2⟩
      · cases hz
    · cases h
theorem foldMax_ok : ∀ {l : List AV} {vs : List Value} {x : AV} {x' : Value} {v : AV}, foldA maxA x l = some v → VR ρ x x' → VRL ρ l vs → ∃ v', (vs.foldlM Builtin.max2 x').run P w = .ok v' w ∧ VR ρ v v'
  | [], _, x, x', v, h, hx, .nil => by simp [foldA] at h; subst h; exact ⟨x', rfl, hx⟩
  | y :: l, _, x, x', v, h, hx, .cons _ y' _ vs hy ht => by
    unfold foldA at h
    split at h
    · rename_i z hz
      unfold maxA at hz
      split at hz
      · cases hz; cases hx; cases hy
        obtain ⟨v', h1, h2⟩ := foldMax_ok h (.int _ _) ht
        exact ⟨v', by simp [Builtin.max2, h1], h2⟩
      · cases hz
    · cases h
theorem aBuiltin_mono {b : Builtin} {ts : Array TypeId} {args : List AV} {v : AV} (hwf : WfS s) (h : aBuiltin P b ts args s = some (v, s')) : Mono s s' := by
  unfold aBuiltin at h
  split at h
  · split at h
    · exact lenA_mono h
    · cases h
  · split at h
    · exact bAppend_mono hwf h
    · exact bAppend_mono hwf h
    · cases h
  · split at h
    · split at h
      · cases h; exact Mono.refl _
      · cases h
    · cases h
  · split at h
    · split at h
      · cases h; exact Mono.refl _
      · cases h
    · cases h
  · split at h
    · cases h; exact Mono.refl _
    · cases h
  · split at h
    · exact stringA_mono h
    · cases h
  · cases h
theorem val_inv {x : Option AV} {v : AV} (h : val s x = some (v, s')) : x = some v ∧ s' = s := by
  unfold val at h
  split at h
  · cases h; exact ⟨rfl, rfl⟩
  · cases h
theorem unit_inv {x : Option St} {v : AV} (h : unit x = some (v, s')) : x = some s' ∧ v = undefA := by
  unfold unit at h
  split at h
  · cases h; exact ⟨rfl, rfl⟩
  · cases h
theorem aop_mono {o : Op} {v : AV} (hwf : WfS s) (h : aop P aa o s = some (v, s')) : Mono s s' := by
  unfold aop at h
  split at h
  case h_3 => split at h <;> first | (cases h; done) | (cases h; exact Mono.refl _)
  case h_4 => split at h <;> first | (cases h; done) | (cases h; exact Mono.new _ _)
  case h_5 => split at h <;> first | (cases h; done) | (cases h; exact Mono.new _ _)
  case h_7 => exact opBuildSlice_mono h
  case h_8 => exact opLoad_mono h
  case h_9 => exact opStore_mono (unit_inv h).1
  case h_10 => split at h <;> first | (cases h; done) | (cases h; exact Mono.refl _)
  case h_13 =>
    split at h
    · exact conv_mono h
    · cases h
  case h_14 => split at h <;> first | (cases h; done) | (cases h; exact Mono.refl _)
  case h_16 => cases h; exact Mono.new _ _
  case h_17 => exact opMakeSlice_mono h
  case h_18 =>
    split at h
    · exact opSliceArr_mono h
    · rw [(val_inv h).2]; exact Mono.refl _
  case h_23 => exact opLookup_mono h
  case h_24 => exact opUpdate_mono (unit_inv h).1
  case h_25 => exact opUpdate_mono (unit_inv h).1
  case h_26 => exact opRange_mono h
  case h_27 => exact opNext_mono h
  case h_29 =>
    split at h
    · rw [(val_inv h).2]; exact Mono.refl _
    · cases h
  case h_30 => exact aBuiltin_mono hwf h
  all_goals first | (cases h; done) | (cases h; exact Mono.refl _) | (rw [(val_inv h).2]; exact Mono.refl _)
/-- The operation's own run. -/
def Yld (P : Program) (a : Act) (o : Oper) (w : World) (v : Value) (w' : World) : Prop := (execOp a.eval o).run P w = .ok (.value v) w' ∨ ((execOp a.eval o).run P w = .ok .skip w' ∧ v = undef)
/-- The operands are told. -/
def OpsR (ρ : Env) (aa : AAct) (a : Act) (o : Op) : Prop := ∀ x ∈ o.operands, VR ρ (aeval aa x) (a.eval x)
theorem args_ok {xs : Array Operand} (h : ∀ x ∈ xs, VR ρ (aeval aa x) (a.eval x)) : VRL ρ (xs.toList.map (aeval aa)) (xs.map a.eval).toList := by
  rw [Array.toList_map]
  exact VRL.map _ _ _ (fun x hx => h x (Array.mem_toList_iff.1 hx))
theorem opt_ok {x : Option Operand} (h : ∀ y, x = some y → VR ρ (aeval aa y) (a.eval y)) : VRO ρ (x.map (aeval aa)) (x.map a.eval) := by
  cases x with
  | none => exact .none
  | some x => exact .some _ _ (h x rfl)
theorem parts_ok {ps : Array (Nat × Operand)} (h : ∀ p ∈ ps, VR ρ (aeval aa p.2) (a.eval p.2)) : PR ρ (parts aa ps) (ps.map fun (i, x) => (i, a.eval x)).toList := by
  unfold Rk.parts
  rw [Array.toList_map]
  have : ∀ l : List (Nat × Operand), (∀ p ∈ l, VR ρ (aeval aa p.2) (a.eval p.2)) → PR ρ (l.map fun p => (p.1, aeval aa p.2)) (l.map fun (i, x) => (i, a.eval x)) := by
    intro l
    induction l with
    | nil => exact fun _ => .nil
    | cons p l ih => exact fun h => .cons p.1 _ _ _ _ (h p (by simp)) (ih (fun q hq => h q (by simp [hq])))
  exact this _ (fun p hp => h p (Array.mem_toList_iff.1 hp))
theorem yld_pure {o : Oper} {m : Sem Value} {v : AV} {v' : Value} (he : execOp a.eval o = do pure (.value (← m))) (hp : Pre ρ T s s w) (hm : m.run P w = .ok v' w) (hv : VR ρ v v') : ∃ ρ' w' v', Yld P a o w v' w' ∧ Post ρ T s w ρ' s w' ∧ VR ρ' v v' :=
  ⟨ρ, w, v', .inl (by rw [he]; simp [hm]), Post.same hp.good rfl rfl (Still.refl w), hv⟩
theorem yld_ok1 {o : Oper} {m : Sem Value} {v : AV} (he : execOp a.eval o = do pure (.value (← m))) (h : OK1 P m ρ T s w v s') : ∃ ρ' w' v', Yld P a o w v' w' ∧ Post ρ T s w ρ' s' w' ∧ VR ρ' v v' := by
  obtain ⟨ρ', w', v', h1, h2, h3⟩ := h
  exact ⟨ρ', w', v', .inl (by rw [he]; simp [h1]), h2, h3⟩
theorem yld_unit {o : Oper} {m : Sem Unit} (he : execOp a.eval o = do m; pure .skip) (h : ∃ w', m.run P w = .ok () w' ∧ Post ρ T s w ρ s' w') : ∃ ρ' w' v', Yld P a o w v' w' ∧ Post ρ T s w ρ' s' w' ∧ VR ρ' undefA v' := by
  obtain ⟨w', h1, h2⟩ := h
  exact ⟨ρ, w', undef, .inr ⟨by rw [he]; simp [h1], rfl⟩, h2, undef_ok⟩
theorem aop_ok {o : Oper} {v : AV} (h : aop P aa o.op s = some (v, s')) (hp : Pre ρ T s s' w) (ha : OpsR ρ aa a o.op) : ∃ ρ' w' v', Yld P a o w v' w' ∧ Post ρ T s w ρ' s' w' ∧ VR ρ' v v' := by
  unfold aop at h
  split at h
  · rename_i x ho
    cases h
    exact ⟨ρ, w, _, .inl (by unfold execOp; rw [ho]; rfl), Post.same hp.good rfl rfl (Still.refl w), ha x (by rw [ho]; simp [Op.operands])⟩
  · rename_i x ho
    cases h
    exact ⟨ρ, w, _, .inl (by unfold execOp; rw [ho]; rfl), Post.same hp.good rfl rfl (Still.refl w), ha x (by rw [ho]; simp [Op.operands])⟩
  · rename_i c x y ho
    split at h
    · rename_i b hc
      cases h
      have hcv := ha c (by rw [ho]; simp [Op.operands])
      rw [hc] at hcv
      generalize hcc : a.eval c = c' at hcv
      cases hcv
      refine ⟨ρ, w, if b then a.eval x else a.eval y, .inl (by unfold execOp; rw [ho]; simp [hcc, asBool]), Post.same hp.good rfl rfl (Still.refl w), ?_⟩
      cases b
      · exact ha y (by rw [ho]; simp [Op.operands])
      · exact ha x (by rw [ho]; simp [Op.operands])
    · cases h
  · rename_i t ho
    split at h
    · rename_i z hz
      cases h
      exact yld_ok1 (by unfold execOp; rw [ho]) (opAlloc_ok hz hp)
    · cases h
  · rename_i t x ho
    split at h
    · rename_i c hc
      cases h
      exact yld_ok1 (by unfold execOp; rw [ho]) (opBox_ok hc hp (ha x (by rw [ho]; simp [Op.operands])))
    · cases h
  · rename_i t ps ho
    obtain ⟨h1, rfl⟩ := val_inv h
    obtain ⟨v', h2, h3⟩ := opBuild_ok (P := P) (ρ := ρ) (w := w) h1 (parts_ok (fun p hp => ha p.2 (by rw [ho]; simp [Op.operands]; exact ⟨p.1, hp⟩)))
    exact yld_pure (by unfold execOp; rw [ho]) hp h2 h3
  · rename_i t len ps ho
    exact yld_ok1 (by unfold execOp; rw [ho]) (opBuildSlice_ok h hp (parts_ok (fun p hp => ha p.2 (by rw [ho]; simp [Op.operands]; exact ⟨p.1, hp⟩))))
  · rename_i t x ho
    exact yld_ok1 (by unfold execOp; rw [ho]) (opLoad_ok h hp (ha x (by rw [ho]; simp [Op.operands])))
  · rename_i t x y ho
    obtain ⟨h1, rfl⟩ := unit_inv h
    exact yld_unit (by unfold execOp; rw [ho]) (opStore_ok h1 hp (ha x (by rw [ho]; simp [Op.operands])) (ha y (by rw [ho]; simp [Op.operands])))
  · rename_i x ho
    have hxv := ha x (by rw [ho]; simp [Op.operands])
    split at h
    · rename_i b off hx
      cases h
      rw [hx] at hxv
      generalize hcc : a.eval x = x' at hxv
      cases hxv with
      | ptr _ _ r hb => exact ⟨ρ, w, _, .inl (by unfold execOp; rw [ho]; simp only [hcc]; rfl), Post.same hp.good rfl rfl (Still.refl w), .ptr _ _ r hb⟩
    · rename_i f k l hx
      cases h
      rw [hx] at hxv
      generalize hcc : a.eval x = x' at hxv
      cases hxv with
      | func _ _ _ k' l' h1 h2 => exact ⟨ρ, w, _, .inl (by unfold execOp; rw [ho]; simp only [hcc]; rfl), Post.same hp.good rfl rfl (Still.refl w), .func _ _ _ k' l' h1 h2⟩
    · rename_i t v0 hx
      cases h
      rw [hx] at hxv
      generalize hcc : a.eval x = x' at hxv
      cases hxv with
      | iface _ _ v1 h1 => exact ⟨ρ, w, _, .inl (by unfold execOp; rw [ho]; simp only [hcc]; rfl), Post.same hp.good rfl rfl (Still.refl w), .iface _ _ v1 h1⟩
    · cases h
  · rename_i op t x y _ ho
    obtain ⟨h1, rfl⟩ := val_inv h
    obtain ⟨v', h2, h3⟩ := bop_ok (P := P) (ρ := ρ) (w := w) h1 (ha x (by rw [ho]; simp [Op.operands])) (ha y (by rw [ho]; simp [Op.operands]))
    exact yld_pure (by unfold execOp; rw [ho]) hp h2 h3
  · rename_i op _ x ho
    obtain ⟨h1, rfl⟩ := val_inv h
    obtain ⟨v', h2, h3⟩ := uop_ok (P := P) (ρ := ρ) (w := w) h1 (ha x (by rw [ho]; simp [Op.operands]))
    exact yld_pure (by unfold execOp; rw [ho]) hp h2 h3
  · rename_i src dst x ho
    split at h
    · rename_i hs
      exact yld_ok1 (by unfold execOp; rw [ho]) (conv_ok h (Option.isSome_iff_exists.1 hs) hp (ha x (by rw [ho]; simp [Op.operands])))
    · cases h
  · rename_i t x ho
    split at h
    · cases h
    · rename_i d hd hu
      cases h
      refine yld_pure (m := Instr.makeInterface t (a.eval x)) (v' := .iface t (a.eval x)) (by unfold execOp; rw [ho]) hp ?_ (.iface _ _ _ (ha x (by rw [ho]; simp [Op.operands])))
      cases d <;> first | (simp [Instr.makeInterface, run_underlying hu]; done) | exact absurd rfl (hd _)
    · cases h
  · rename_i f first cap ho
    cases h
    exact ⟨ρ, w, _, .inl (by unfold execOp; rw [ho]; rfl), Post.same hp.good rfl rfl (Still.refl w), .func _ _ _ _ _ (args_ok (fun x hx => ha x (by rw [ho]; simp [Op.operands, hx]))) (args_ok (fun x hx => ha x (by rw [ho]; simp [Op.operands, hx])))⟩
  · rename_i t ho
    cases h
    have hf : ρ s.n = none := hp.fresh s.n (Nat.le_refl _) (Nat.lt_succ_self _)
    refine ⟨_, _, .map (some w.heap.size), .inl (by unfold execOp; rw [ho]; simp [Instr.makeMap]), Post.made (o := .map #[] 0) (r := ⟨w.heap.size, 0, 0⟩) hp.good hp.wf hf hp.tn (Add.push w _) rfl ⟨_, #[], Env.add_self _ _, (Add.push w _).here, MR.nil⟩, .map s.n _ (Env.add_self _ _)⟩
  · rename_i t l c ho
    exact yld_ok1 (by unfold execOp; rw [ho]) (opMakeSlice_ok h hp (ha l (by rw [ho]; simp [Op.operands])) (ha c (by rw [ho]; simp [Op.operands])))
  · rename_i t x lo hi mx ho
    split at h
    · rename_i b off hx
      have hxv := ha x (by rw [ho]; simp [Op.operands])
      rw [hx] at hxv
      exact yld_ok1 (by unfold execOp; rw [ho]) (opSliceArr_ok h hp hxv (opt_ok (fun x hx => ha x (by rw [ho]; simp [Op.operands, hx]))) (opt_ok (fun x hx => ha x (by rw [ho]; simp [Op.operands, hx]))) (opt_ok (fun x hx => ha x (by rw [ho]; simp [Op.operands, hx]))))
    · obtain ⟨h1, rfl⟩ := val_inv h
      obtain ⟨v', h2, h3⟩ := opSlice_ok (P := P) (ρ := ρ) (w := w) h1 (ha x (by rw [ho]; simp [Op.operands])) (opt_ok (fun x hx => ha x (by rw [ho]; simp [Op.operands, hx]))) (opt_ok (fun x hx => ha x (by rw [ho]; simp [Op.operands, hx]))) (opt_ok (fun x hx => ha x (by rw [ho]; simp [Op.operands, hx])))
      exact yld_pure (by unfold execOp; rw [ho]) hp h2 h3
  · rename_i t x f ho
    obtain ⟨h1, rfl⟩ := val_inv h
    obtain ⟨v', h2, h3⟩ := opFieldAddr_ok (P := P) (ρ := ρ) (w := w) h1 (ha x (by rw [ho]; simp [Op.operands]))
    exact yld_pure (by unfold execOp; rw [ho]) hp h2 h3
  · rename_i t x f ho
    obtain ⟨h1, rfl⟩ := val_inv h
    obtain ⟨v', h2, h3⟩ := opField_ok (P := P) (ρ := ρ) (w := w) h1 (ha x (by rw [ho]; simp [Op.operands]))
    exact yld_pure (by unfold execOp; rw [ho]) hp h2 h3
  · rename_i t x i ho
    obtain ⟨h1, rfl⟩ := val_inv h
    obtain ⟨v', h2, h3⟩ := opIndexAddr_ok (P := P) (ρ := ρ) (w := w) h1 (ha x (by rw [ho]; simp [Op.operands])) (ha i (by rw [ho]; simp [Op.operands]))
    exact yld_pure (by unfold execOp; rw [ho]) hp h2 h3
  · rename_i t x i ho
    obtain ⟨h1, rfl⟩ := val_inv h
    obtain ⟨v', h2, h3⟩ := opIndex_ok (P := P) (ρ := ρ) (w := w) h1 (ha x (by rw [ho]; simp [Op.operands])) (ha i (by rw [ho]; simp [Op.operands]))
    exact yld_pure (by unfold execOp; rw [ho]) hp h2 h3
  · rename_i t x i ok ho
    exact yld_ok1 (by unfold execOp; rw [ho]) (opLookup_ok h hp (ha x (by rw [ho]; simp [Op.operands])) (ha i (by rw [ho]; simp [Op.operands])))
  · rename_i t m k x ho
    obtain ⟨h1, rfl⟩ := unit_inv h
    exact yld_unit (by unfold execOp; rw [ho]) (opUpdate_ok h1 hp (ha m (by rw [ho]; simp [Op.operands])) (ha k (by rw [ho]; simp [Op.operands])) (ha x (by rw [ho]; simp [Op.operands])))
  · rename_i t m k x ho
    obtain ⟨h1, rfl⟩ := unit_inv h
    exact yld_unit (by unfold execOp; rw [ho]) (opUpdate_ok h1 hp (ha m (by rw [ho]; simp [Op.operands])) (ha k (by rw [ho]; simp [Op.operands])) (ha x (by rw [ho]; simp [Op.operands])))
  · rename_i t x ho
    exact yld_ok1 (by unfold execOp; rw [ho]) (opRange_ok h hp (ha x (by rw [ho]; simp [Op.operands])))
  · rename_i x ho
    exact yld_ok1 (by unfold execOp; rw [ho]) (opNext_ok (ty := o.type) h hp (ha x (by rw [ho]; simp [Op.operands])))
  · rename_i x tx t ok ho
    obtain ⟨h1, rfl⟩ := val_inv h
    obtain ⟨v', h2, h3⟩ := opAssert_ok (P := P) (ρ := ρ) (w := w) (tx := tx) h1 (ha x (by rw [ho]; simp [Op.operands]))
    exact yld_pure (by unfold execOp; rw [ho]) hp h2 h3
  · rename_i t i ho
    split at h
    · rename_i vs hx
      obtain ⟨h1, rfl⟩ := val_inv h
      have hxv := ha t (by rw [ho]; simp [Op.operands])
      rw [hx] at hxv
      generalize hcc : a.eval t = x' at hxv
      cases hxv with
      | tuple _ vs' hvs =>
      obtain ⟨v', h2, h3⟩ := hvs.aget h1
      exact yld_pure (m := Instr.extract (.tuple vs') i) (by unfold execOp; rw [ho]; simp only [hcc]) hp (by simp [Instr.extract, h2]) h3
    · cases h
  · rename_i b args argTypes ho
    have hargs := args_ok (ρ := ρ) (aa := aa) (a := a) (xs := args) (fun x hx => ha x (by rw [ho]; simp [Op.operands, Call.operands, hx]))
    have he : ∃ c : Array Bool, ∀ w1, (execOp a.eval o).run P w1 = (builtin b argTypes o.type c (args.map a.eval)).run P w1 := ⟨_, fun w1 => by
      unfold execOp
      rw [ho]
      simp only [resolve, invoke, Sem.run_bind, Sem.run_pure, Result.andThen_ok]
      rfl⟩
    obtain ⟨cc, he⟩ := he
    generalize hal : args.toList.map (aeval aa) = al at h hargs
    generalize hvl : args.map a.eval = vl at hargs he
    have kv : ∀ (m : Sem Value), builtin b argTypes o.type cc vl = (do pure (.value (← m))) → OK1 P m ρ T s w v s' → ∃ ρ' w' v', Yld P a o w v' w' ∧ Post ρ T s w ρ' s' w' ∧ VR ρ' v v' := fun m hb ⟨ρ', w', v', k1, k2, k3⟩ => by
      refine ⟨ρ', w', v', .inl ?_, k2, k3⟩
      rw [he, hb]
      simp [k1]
    have one_ : ∀ {x : AV}, VRL ρ [x] vl.toList → ∃ x', vl = #[x'] ∧ VR ρ x x' := fun {x} hh => by
      rcases vl with ⟨l⟩
      cases hh with
      | cons _ x' _ _ hx ht => cases ht; exact ⟨x', rfl, hx⟩
    have two_ : ∀ {x y : AV}, VRL ρ [x, y] vl.toList → ∃ x' y', vl = #[x', y'] ∧ VR ρ x x' ∧ VR ρ y y' := fun {x y} hh => by
      rcases vl with ⟨l⟩
      cases hh with
      | cons _ x' _ _ hx ht => cases ht with
        | cons _ y' _ _ hy ht => cases ht; exact ⟨x', y', rfl, hx, hy⟩
    have more_ : ∀ {x : AV} {l : List AV}, VRL ρ (x :: l) vl.toList → ∃ x' l', vl = ⟨x' :: l'⟩ ∧ VR ρ x x' ∧ VRL ρ l l' := fun {x l} hh => by
      rcases vl with ⟨l⟩
      cases hh with
      | cons _ x' _ l' hx ht => exact ⟨x', l', rfl, hx, ht⟩
    unfold aBuiltin at h
    split at h
    · split at h
      · rename_i x
        obtain ⟨x', rfl, hx⟩ := one_ hargs
        cases ht : argTypes[0]? with
        | none => rw [ht] at h; simp [lenA] at h
        | some t =>
          rw [ht] at h
          exact kv (Builtin.len_ argTypes o.type #[x']) rfl (lenA_ok ht h hp hx)
      · cases h
    · split at h
      · rename_i t x y e ht hu
        obtain ⟨x', y', rfl, hx, hy⟩ := two_ hargs
        obtain ⟨u, hu1, hu2⟩ := Option.bind_eq_some_iff.1 hu
        have happ : Builtin.append_ argTypes o.type #[x', y'] = Builtin.append_ #[t, u] o.type #[x', y'] := by
          unfold Builtin.append_
          simp only [ht, hu1, List.getElem?_toArray, List.getElem?_cons_zero, List.getElem?_cons_succ]
        exact kv (Builtin.append_ #[t, u] o.type #[x', y']) (by rw [← happ]; rfl) (bAppend_ok h (.inl ⟨_, hu2⟩) hp hx hy)
      · rename_i t x y ht hu
        obtain ⟨x', y', rfl, hx, hy⟩ := two_ hargs
        obtain ⟨u, hu1, hu2⟩ := Option.bind_eq_some_iff.1 hu
        have happ : Builtin.append_ argTypes o.type #[x', y'] = Builtin.append_ #[t, u] o.type #[x', y'] := by
          unfold Builtin.append_
          simp only [ht, hu1, List.getElem?_toArray, List.getElem?_cons_zero, List.getElem?_cons_succ]
        exact kv (Builtin.append_ #[t, u] o.type #[x', y']) (by rw [← happ]; rfl) (bAppend_ok h (.inr hu2) hp hx hy)
      · cases h
    · split at h
      · rename_i x l
        split at h
        · rename_i hf
          cases h
          obtain ⟨x', l', rfl, hx, hl⟩ := more_ hargs
          obtain ⟨v', h1, h2⟩ := foldMin_ok (P := P) (w := w) hf hx hl
          exact kv (Builtin.min_ argTypes o.type ⟨x' :: l'⟩) rfl (OK1.pure hp (by simpa [Builtin.min_] using h1) h2)
        · cases h
      · cases h
    · split at h
      · rename_i x l
        split at h
        · rename_i hf
          cases h
          obtain ⟨x', l', rfl, hx, hl⟩ := more_ hargs
          obtain ⟨v', h1, h2⟩ := foldMax_ok (P := P) (w := w) hf hx hl
          exact kv (Builtin.max_ argTypes o.type ⟨x' :: l'⟩) rfl (OK1.pure hp (by simpa [Builtin.max_] using h1) h2)
        · cases h
      · cases h
    · split at h
      · rename_i hf
        cases h
        rcases al with _ | ⟨x, _ | ⟨y, l⟩⟩
        · simp [sliceDataA] at hf
        · obtain ⟨x', rfl, hx⟩ := one_ hargs
          exact kv (Builtin.unsafeSliceData_ argTypes o.type #[x']) rfl (sliceDataA_ok hf hp hx)
        · unfold sliceDataA at hf
          split at hf <;> rename_i he <;> first | (cases he; done) | cases hf
      · cases h
    · split at h
      · rename_i t it hts
        have hat : argTypes = #[t, it] := by rw [← Array.toList_inj]; exact hts
        rcases al with _ | ⟨x, _ | ⟨y, _ | ⟨z, l⟩⟩⟩
        · simp [stringA] at h
        · unfold stringA at h
          split at h <;> rename_i he <;> first | (cases he; done) | cases h
        · obtain ⟨x', y', rfl, hx, hy⟩ := two_ hargs
          refine kv (Builtin.unsafeString_ argTypes o.type #[x', y']) rfl ?_
          rw [hat]
          exact stringA_ok h hp hx hy
        · unfold stringA at h
          split at h <;> rename_i he <;> first | (cases he; done) | cases h
      · cases h
    · cases h
  · cases h
end
end Go.Proofs.YtnodnpehjbhphaaGreatDoor.Rk
