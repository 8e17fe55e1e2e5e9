/- Part Rk3 of the proof: the statement that is proved stands in the text that ends with its name. No conditions beyond the card's. -/
import Derived.Test.YtmabpnmnppfgaaaGreatDoorRk2
import Derived.LoopNIn
import Derived.ScopeJumps
namespace Go.Proofs.YtmabpnmnppfgaaaGreatDoor.Rk
open Go
set_option linter.unusedVariables false
section
variable {ρ ρ' : Env} {T1 T2 : Nat → Nat → Prop} {p q : St} {w w' : World} {h h' : Nat → Option ABlk}
theorem good_frame (hG : Good ρ T1 h w) (hp : Pre ρ T2 p q w) (hpost : Post ρ T2 p w ρ' q w') (hm : Mono p q) (hlog : p.log = [])
    (hsub : ∀ b i, T2 b i → T1 b i) (hlive : ∀ b, (∃ i, T2 b i) → ∃ z, h b = some z ∧ live z) (hnew : ∀ b i, p.n ≤ b → b < q.n → ¬ T1 b i)
    (hcov : ∀ e ∈ q.log, e.blk < p.n → ∀ i, e.at e.blk i → T2 e.blk i)
    (ha : ∀ b, p.n ≤ b → b < q.n → h' b = q.heap.get b)
    (hb : ∀ b y, (∃ i, T1 b i) → (∀ i, ¬ T2 b i) → h' b = some y → live y → h b = some y)
    (hc : ∀ b y', (∃ i, T2 b i) → h' b = some y' → live y' → ∃ y, q.heap.get b = some y ∧ live y ∧ (match y with
      | .cells t cs' => ∃ cs, y' = .cells t cs ∧ cs.length = cs'.length ∧ (∀ i, T2 b i → cs[i]? = cs'[i]?) ∧ ((∀ i, T2 b i) ∨ ∃ cs0, h b = some (.cells t cs0) ∧ ∀ i, ¬ T2 b i → cs[i]? = cs0[i]?)
      | y => y' = y)) : Good ρ' (Tn T1 p.n q.n) h' w' := by
  have hwr : ∀ e ∈ q.log, ∀ r, ρ e.blk = some r → ∀ i, e.at e.blk i → T2 e.blk i := by
    intro e he r hr i hi
    have h1 : e.blk < q.n := hm.lb hp.wf (by rw [hlog]; simp) e he
    by_cases h2 : e.blk < p.n
    · exact hcov e he h2 i hi
    · rw [hp.fresh e.blk (by omega) h1] at hr; cases hr
  have hinj : ∀ b r i, T2 b i → ∀ b' r' y', ρ b = some r → ρ b' = some r' → h b' = some y' → live y' → (∃ i, T1 b' i) → r.blk = r'.blk → b = b' := by
    intro b r i hi b' r' y' hr hr' hy' hl' ht' e
    obtain ⟨z, hz, hzl⟩ := hlive b ⟨i, hi⟩
    exact hG.inj b b' r r' z y' hz hy' hzl hl' ⟨i, hsub b i hi⟩ ht' hr hr' e
  have hquiet : ∀ b r y, ρ b = some r → h b = some y → live y → (∃ i, T1 b i) → (∀ i, ¬ T2 b i) → w'.heap[r.blk]? = w.heap[r.blk]? := by
    intro b r y hr hy hl hT hn
    refine hpost.unch.block r.blk (hG.old b r hr) (fun o hw => ?_)
    obtain ⟨e, he, r', h1, h2, h3⟩ := hw
    have hi : ∃ i, e.at e.blk i := by
      cases e with
      | rd => exact h3.elim
      | wr c j n => exact ⟨j, rfl, Nat.le_refl _, by omega⟩
      | all c => exact ⟨0, rfl⟩
    obtain ⟨i, hi⟩ := hi
    have ht := hwr e he r' h1 i hi
    have := hinj e.blk r' i ht b r y h1 hr hy hl hT h2
    exact hn i (this ▸ ht)
  have told : ∀ b, ∀ i, Tn T1 p.n q.n b i → T1 b i ∨ p.n ≤ b ∧ b < q.n := fun b i h => h
  refine ⟨fun b y hy hT => ?_, fun b b' r r' y y' hy hy' hl hl' ht ht' hr hr' e => ?_, hpost.good.old⟩
  · by_cases hl : live y
    · by_cases hmade : p.n ≤ b ∧ b < q.n
      · rw [ha b hmade.1 hmade.2] at hy
        exact (hpost.good.sat b y hy ⟨0, .inr hmade⟩).mono (Env.le_refl _) (fun i _ => .inr hmade) (fun _ _ => rfl)
      · have hT1 : ∃ i, T1 b i := by
          obtain ⟨i, hi⟩ := hT
          rcases hi with hi | hi
          · exact ⟨i, hi⟩
          · exact absurd hi hmade
        have hTT : ∀ i, Tn T1 p.n q.n b i → T1 b i := fun i hi => hi.elim id (fun hi => absurd hi hmade)
        by_cases ht2 : ∃ i, T2 b i
        · obtain ⟨y0, hq, hyl, hrel⟩ := hc b y ht2 hy hl
          have hbr := hpost.good.sat b y0 hq (by obtain ⟨i, hi⟩ := ht2; exact ⟨i, .inl hi⟩)
          cases y0 with
          | cells t cs' =>
            obtain ⟨cs, rfl, hlen, hin, hout⟩ := hrel
            obtain ⟨r, c, fr, g1, g2, g3, g4, g5, g6⟩ := hbr
            refine ⟨r, c, fr, g1, g2, g3, by rw [hlen]; exact g4, g5, fun i a hai hTi => ?_⟩
            by_cases hti : T2 b i
            · rw [hin i hti] at hai
              exact g6 i a hai (.inl hti)
            · rcases hout with hout | ⟨cs0, hh0, hout⟩
              · exact absurd (hout i) hti
              · rw [hout i hti] at hai
                obtain ⟨r0, c0, fr0, k1, k2, k3, k4, k5, k6⟩ := hG.sat b _ hh0 hT1
                have hr0 : r0 = r := Option.some.inj ((hpost.ext b r0 k1).symm.trans g1)
                subst hr0
                obtain ⟨v, hv, hR⟩ := k6 i a hai (hTT i hTi)
                have hbl : ∀ e ∈ q.log, ∀ r', ρ e.blk = some r' → r'.blk = r0.blk → ∀ j, e.at e.blk j → e.blk = b := fun e he r' hr' hbk j hj => hinj e.blk r' j (hwr e he r' hr' j hj) b r0 _ hr' k1 hh0 trivial hT1 hbk
                obtain ⟨c1, m1, m2, m3⟩ := hpost.unch.cells r0.blk c0 (t / 2) fr0 k2 (fun ⟨b1, r1, n1, n2, n3⟩ => by
                  have := hbl _ n1 r1 n2 n3 i rfl
                  have h7 := hwr _ n1 r1 n2 i rfl
                  simp only [LE.blk] at this h7
                  rw [this] at h7
                  exact hti h7)
                rw [m1] at g2
                simp only [Option.some.injEq, Obj.cells.injEq] at g2
                obtain ⟨g2, _, _⟩ := g2
                subst g2
                refine ⟨v, ?_, hR.mono hpost.ext⟩
                rw [m3 _ (fun ⟨e, he, r', n1, n2, n3⟩ => by
                  cases e with
                  | rd => exact n3.elim
                  | wr b1 j n =>
                    have h8 : (LE.wr b1 j n).at b1 j := ⟨rfl, Nat.le_refl _, by omega⟩
                    have hbb := hbl _ he r' n1 n2 j h8
                    simp only [LE.blk] at hbb n1
                    subst hbb
                    have : r' = r0 := Option.some.inj (n1.symm.trans k1)
                    subst this
                    exact hti (hwr _ he r' n1 i ⟨rfl, by omega, by omega⟩)
                  | all b1 =>
                    have hbb := hbl _ he r' n1 n2 i rfl
                    simp only [LE.blk] at hbb n1
                    subst hbb
                    exact hti (hwr _ he r' n1 i rfl))]
                exact hv
          | map es clock => subst hrel; exact hbr
          | miter m a1 a2 a3 => subst hrel; exact hbr
          | siter a1 a2 => subst hrel; exact hbr
          | pmap a1 => subst hrel; exact hbr
          | defd => subst hrel; exact hbr
          | loop a1 a2 a3 a4 a5 a6 a7 a8 => subst hrel; exact hbr
          | dead => exact hyl.elim
        · have hn2 : ∀ i, ¬ T2 b i := fun i hi => ht2 ⟨i, hi⟩
          have hy0 := hb b y hT1 hn2 hy hl
          exact (hG.sat b y hy0 hT1).mono hpost.ext hTT (fun r hr => hquiet b r y hr hy0 hl hT1 hn2)
    · cases y <;> first | exact trivial | exact absurd trivial hl
  ·
    have old_ : ∀ b y r, h' b = some y → live y → (∃ i, Tn T1 p.n q.n b i) → ¬ (p.n ≤ b ∧ b < q.n) → ρ' b = some r → (∃ i, T1 b i) ∧ (∃ z, h b = some z ∧ live z) ∧ ρ b = some r := by
      intro b y r hy hl ht hnm hr
      have hT1 : ∃ i, T1 b i := by
        obtain ⟨i, hi⟩ := ht
        rcases hi with hi | hi
        · exact ⟨i, hi⟩
        · exact absurd hi hnm
      have hz : ∃ z, h b = some z ∧ live z := by
        by_cases ht2 : ∃ i, T2 b i
        · exact hlive b ht2
        · exact ⟨y, hb b y hT1 (fun i hi => ht2 ⟨i, hi⟩) hy hl, hl⟩
      obtain ⟨z, hz1, hz2⟩ := hz
      obtain ⟨r0, o0, hr0, _⟩ := (hG.sat b z hz1 hT1).where_ hz2
      have : r0 = r := Option.some.inj ((hpost.ext _ _ hr0).symm.trans hr)
      subst this
      exact ⟨hT1, ⟨z, hz1, hz2⟩, hr0⟩
    have mix : ∀ b y r b' y' r', h' b = some y → live y → (∃ i, Tn T1 p.n q.n b i) → ¬ (p.n ≤ b ∧ b < q.n) → ρ' b = some r → h' b' = some y' → live y' → (p.n ≤ b' ∧ b' < q.n) → ρ' b' = some r' → r.blk = r'.blk → b = b' := by
      intro b y r b' y' r' hy hl ht hnm hr hy' hl' hm' hr' e
      obtain ⟨hT1, ⟨z, hz1, hz2⟩, hr0⟩ := old_ b y r hy hl ht hnm hr
      have hno : ρ b' = none := hp.fresh b' hm'.1 hm'.2
      have hlt := hG.old b r hr0
      obtain ⟨b1, r1, n1, n2, n3⟩ := hpost.fr b' r' hno hr' (by omega)
      have ht2 := hwr _ n1 r1 n2 0 rfl
      have hbb := hinj b1 r1 0 ht2 b r z n2 hr0 hz1 hz2 hT1 (by omega)
      subst hbb
      obtain ⟨y0, hq, hyl, _⟩ := hc b1 y ⟨0, ht2⟩ hy hl
      rw [ha b' hm'.1 hm'.2] at hy'
      exact hpost.good.inj b1 b' r r' y0 y' hq hy' hyl hl' ⟨0, .inl ht2⟩ ⟨0, .inr hm'⟩ hr hr' e
    by_cases hmb : p.n ≤ b ∧ b < q.n
    · by_cases hmb' : p.n ≤ b' ∧ b' < q.n
      · rw [ha b hmb.1 hmb.2] at hy
        rw [ha b' hmb'.1 hmb'.2] at hy'
        exact hpost.good.inj b b' r r' y y' hy hy' hl hl' ⟨0, .inr hmb⟩ ⟨0, .inr hmb'⟩ hr hr' e
      · exact (mix b' y' r' b y r hy' hl' ht' hmb' hr' hy hl hmb hr e.symm).symm
    · by_cases hmb' : p.n ≤ b' ∧ b' < q.n
      · exact mix b y r b' y' r' hy hl ht hmb hr hy' hl' hmb' hr' e
      · obtain ⟨hT1, ⟨z, hz1, hz2⟩, hr0⟩ := old_ b y r hy hl ht hmb hr
        obtain ⟨hT1', ⟨z', hz1', hz2'⟩, hr0'⟩ := old_ b' y' r' hy' hl' ht' hmb' hr'
        exact hG.inj b b' r r' z z' hz1 hz1' hz2 hz2' hT1 hT1' hr0 hr0' e
end
end Go.Proofs.YtmabpnmnppfgaaaGreatDoor.Rk
namespace Go.Proofs.YtmabpnmnppfgaaaGreatDoor.Rk
open Go
set_option linter.unusedVariables false
def waitF (acc : List Nat) (o : Oper) : Nat := o.after.toList.foldl (fun s e => if Region.binds .any e then s ||| 2 ^ e.on ||| acc.getD e.on 0 else s) 0
theorem waitF_bit (acc : List Nat) : ∀ (l : List Edge) (s0 j : Nat), (l.foldl (fun s e => if Region.binds .any e then s ||| 2 ^ e.on ||| acc.getD e.on 0 else s) s0).testBit j = true ↔ s0.testBit j = true ∨ ∃ e ∈ l, Region.binds .any e = true ∧ (e.on = j ∨ (acc.getD e.on 0).testBit j = true)
  | [], s0, j => by simp
  | e :: l, s0, j => by
    rw [List.foldl_cons, waitF_bit acc l]
    by_cases hb : Region.binds .any e = true
    · rw [if_pos hb]
      simp only [Nat.testBit_or, Bool.or_eq_true, Nat.testBit_two_pow, decide_eq_true_eq, List.mem_cons, exists_eq_or_imp, hb, true_and]
      constructor
      · rintro (((h | h) | h) | h)
        · exact .inl h
        · exact .inr (.inl (.inl h))
        · exact .inr (.inl (.inr h))
        · exact .inr (.inr h)
      · rintro (h | (h | h) | h)
        · exact .inl (.inl (.inl h))
        · exact .inl (.inl (.inr h))
        · exact .inl (.inr h)
        · exact .inr h
    · rw [if_neg hb]
      simp [hb]
theorem waitsA_snoc (ops : List Oper) (o : Oper) : waitsA (ops ++ [o]) = waitsA ops ++ [waitF (waitsA ops) o] := by
  unfold waitsA
  rw [List.foldl_append]
  rfl
theorem waitsA_len (ops : List Oper) : (waitsA ops).length = ops.length := by
  have : ∀ (n : Nat) (ops : List Oper), ops.length = n → (waitsA ops).length = n := by
    intro n
    induction n with
    | zero => intro ops h; rw [List.eq_nil_of_length_eq_zero h]; rfl
    | succ n ih =>
      intro ops h
      have hne : ops ≠ [] := by intro e; subst e; simp at h
      rw [← List.dropLast_concat_getLast hne, waitsA_snoc]
      have := ih ops.dropLast (by simp [h])
      simp [this]
  exact this _ ops rfl
def W (ops : List Oper) (k : Nat) : Nat := (waitsA ops).getD k 0
theorem waits_pre (ops l : List Oper) (k : Nat) (hk : k < ops.length) : (waitsA (ops ++ l))[k]? = (waitsA ops)[k]? := by
  have : ∀ (n : Nat) (l : List Oper), l.length = n → (waitsA (ops ++ l))[k]? = (waitsA ops)[k]? := by
    intro n
    induction n with
    | zero => intro l h; rw [List.eq_nil_of_length_eq_zero h, List.append_nil]
    | succ n ih =>
      intro l h
      have hne : l ≠ [] := by intro e; subst e; simp at h
      rw [← List.dropLast_concat_getLast hne, ← List.append_assoc, waitsA_snoc, List.getElem?_append_left (by rw [waitsA_len]; simp; omega)]
      exact ih l.dropLast (by simp [h])
  exact this _ l rfl
theorem W_spec {ops : List Oper} {k : Nat} {o : Oper} (ho : ops[k]? = some o) {j : Nat} : (W ops k).testBit j = true ↔ ∃ e ∈ o.after, Region.binds .any e = true ∧ (e.on = j ∨ (((waitsA ops).take k).getD e.on 0).testBit j = true) := by
  have hk := (List.getElem?_eq_some_iff.1 ho).1
  have hsplit : ops = ops.take (k + 1) ++ ops.drop (k + 1) := (List.take_append_drop _ _).symm
  have hsnoc : ops.take (k + 1) = ops.take k ++ [o] := by rw [List.take_add_one, ho]; rfl
  have htk : (waitsA ops).take k = waitsA (ops.take k) := by
    apply List.ext_getElem?
    intro i
    by_cases hi : i < k
    · rw [List.getElem?_take_of_lt hi]
      conv => lhs; rw [← List.take_append_drop k ops]
      rw [waits_pre _ _ i (by simp; omega)]
    · rw [List.getElem?_eq_none (by simp; omega), List.getElem?_eq_none (by rw [waitsA_len]; simp; omega)]
  have hW : W ops k = waitF (waitsA (ops.take k)) o := by
    unfold W
    rw [List.getD_eq_getElem?_getD]
    conv => lhs; rw [hsplit]
    rw [waits_pre _ _ k (by simp; omega), hsnoc, waitsA_snoc, List.getElem?_append_right (by rw [waitsA_len]; simp; omega), waitsA_len]
    have : k - (ops.take k).length = 0 := by simp; omega
    rw [this]
    rfl
  rw [hW, htk]
  unfold waitF
  rw [waitF_bit]
  simp [Array.mem_toList_iff]
structure Stp where
  p : St
  v : AV
  q : St
def Stp.rc (x : Stp) : Rec := ⟨x.q.log, x.p.n, x.q.n⟩
def Stp.wr (x : Stp) : Bool := x.q.log.any (·.writes)
structure Text (P : Program) (C : Callee) (Y : Yielder) (ops : List Oper) (ss : List Stp) (A : Nat → AAct) (S : Nat → St) : Prop where
  len : ss.length = ops.length
  at_ : ∀ k x o, ss[k]? = some x → ops[k]? = some o → x.p = { S k with log := [] } ∧ A (k + 1) = (A k).put o.dst x.v ∧ S (k + 1) = { x.q with log := x.q.log ++ (S k).log } ∧
    ((wantedA ops o (A k) = some true ∧ oneVal P C Y (A k) o x.p = some (.ret x.v, x.q)) ∨ (wantedA ops o (A k) = some false ∧ x.v = undefA ∧ x.q = x.p))
  clash : ∀ j k x y, j < k → ss[j]? = some x → ss[k]? = some y → (W ops k).testBit j = false → x.rc.clash y.rc = false
theorem clashes_false {w : Nat} {r : Rec} : ∀ {l : List Rec} {i : Nat}, clashes w r l i = false → ∀ j x, l[j]? = some x → w.testBit (i + j) = false → x.clash r = false
  | [], i, _, j, x, hx, _ => by simp at hx
  | y :: l, i, h, 0, x, hx, hw => by
    simp at hx
    subst hx
    unfold clashes at h
    simp only [Bool.or_eq_false_iff, Bool.and_eq_false_iff, Bool.not_eq_false'] at h
    rcases h.1 with h1 | h1
    · simp at hw; rw [hw] at h1; cases h1
    · exact h1
  | y :: l, i, h, j + 1, x, hx, hw => by
    unfold clashes at h
    simp only [Bool.or_eq_false_iff] at h
    exact clashes_false h.2 j x (by simpa using hx) (by rw [show i + 1 + j = i + (j + 1) by omega]; exact hw)
theorem clash_empty (r : Rec) (n m : Nat) : r.clash ⟨[], n, m⟩ = false := by
  unfold Rec.clash
  simp
section
variable {P : Program} {C : Callee} {Y : Yielder}
def TextL (P : Program) (C : Callee) (Y : Yielder) (ops l : List Oper) (ws : List Nat) (rs : List Rec) (aa : AAct) (s : St) (aa' : AAct) (s' : St) : Prop :=
    ∃ (ss : List Stp) (A : Nat → AAct) (S : Nat → St), A 0 = aa ∧ S 0 = s ∧ A l.length = aa' ∧ S l.length = s' ∧ ss.length = l.length ∧ (∀ (k : Nat) (x : Stp) (o : Oper), ss[k]? = some x → l[k]? = some o → x.p = { S k with log := [] } ∧ A (k + 1) = (A k).put o.dst x.v ∧ S (k + 1) = { x.q with log := x.q.log ++ (S k).log } ∧
      ((wantedA ops o (A k) = some true ∧ oneVal P C Y (A k) o x.p = some (.ret x.v, x.q)) ∨ (wantedA ops o (A k) = some false ∧ x.v = undefA ∧ x.q = x.p))) ∧
      ∀ (k : Nat) (y : Stp), ss[k]? = some y → ∃ w : Nat, ws[k]? = some w ∧ (∀ (j : Nat) (r : Rec), rs[j]? = some r → w.testBit j = false → r.clash y.rc = false) ∧ ∀ (j : Nat) (x : Stp), j < k → ss[j]? = some x → w.testBit (rs.length + j) = false → x.rc.clash y.rc = false
theorem draw_text {ops : List Oper} : ∀ (l : List Oper) (ws : List Nat) (rs : List Rec) (aa : AAct) (s : St) {aa' : AAct} {s' : St}, drawOps P C Y ops l ws rs aa s = .ok aa' s' → TextL P C Y ops l ws rs aa s aa' s'
  | [], ws, rs, aa, s, aa', s', h => by
    unfold drawOps at h
    cases h
    exact ⟨[], fun _ => aa, fun _ => s, rfl, rfl, rfl, rfl, rfl, fun k x o hx => by simp at hx, fun k y hy => by simp at hy⟩
  | o :: l, [], rs, aa, s, aa', s', h => by unfold drawOps at h; cases h
  | o :: l, w :: ws, rs, aa, s, aa', s', h => by
    have build : ∀ (x : Stp), x.p = { s with log := [] } → ((wantedA ops o aa = some true ∧ oneVal P C Y aa o x.p = some (.ret x.v, x.q)) ∨ (wantedA ops o aa = some false ∧ x.v = undefA ∧ x.q = x.p)) → (∀ j r, rs[j]? = some r → w.testBit j = false → r.clash x.rc = false) →
        drawOps P C Y ops l ws (rs ++ [x.rc]) (aa.put o.dst x.v) { x.q with log := x.q.log ++ s.log } = .ok aa' s' → TextL P C Y ops (o :: l) (w :: ws) rs aa s aa' s' := fun x hxp hx hcl hrest => by
      obtain ⟨ss, A, S, h1, h2, h3, h4, h5, h6, h7⟩ := draw_text l ws _ _ _ hrest
      refine ⟨x :: ss, fun k => match k with | 0 => aa | k + 1 => A k, fun k => match k with | 0 => s | k + 1 => S k, rfl, rfl, h3, h4, by simp [h5], fun k y oo hy ho => ?_, fun k y hy => ?_⟩
      · cases k with
        | zero =>
          simp at hy ho
          subst hy ho
          exact ⟨hxp, h1, h2, hx⟩
        | succ k => exact h6 k y oo (by simpa using hy) (by simpa using ho)
      · cases k with
        | zero =>
          simp at hy
          subst hy
          exact ⟨w, rfl, hcl, fun j x hj => by omega⟩
        | succ k =>
          obtain ⟨w', g1, g2, g3⟩ := h7 k y (by simpa using hy)
          refine ⟨w', by simpa using g1, fun j r hr hb => g2 j r (by rw [List.getElem?_append_left (List.getElem?_eq_some_iff.1 hr).1]; exact hr) hb, fun j z hj hz hb => ?_⟩
          cases j with
          | zero =>
            simp at hz
            subst hz
            exact g2 rs.length x.rc (by simp) (by simpa using hb)
          | succ j => exact g3 j z (by omega) (by simpa using hz) (by rw [List.length_append, List.length_singleton, show rs.length + 1 + j = rs.length + (j + 1) by omega]; exact hb)
    unfold drawOps at h
    split at h
    · rename_i hw
      split at h
      · rename_i v s1 hv
        split at h
        · cases h
        · rename_i hcl
          have hcl : clashes w ⟨s1.log, s.n, s1.n⟩ rs 0 = false := by simpa using hcl
          exact build ⟨{ s with log := [] }, v, s1⟩ rfl (.inl ⟨hw, hv⟩) (fun j r hr hb => clashes_false hcl j r hr (by simpa using hb)) h
      · cases h
    · rename_i hw
      exact build ⟨{ s with log := [] }, undefA, { s with log := [] }⟩ rfl (.inr ⟨hw, rfl, rfl⟩) (fun j r hr hb => clash_empty _ _ _) (by simpa [Stp.rc] using h)
    · cases h
theorem draw_Text {ops : List Oper} {aa aa' : AAct} {s s' : St} (h : drawOps P C Y ops ops (waitsA ops) [] aa s = .ok aa' s') : ∃ ss A S, Text P C Y ops ss A S ∧ A 0 = aa ∧ S 0 = s ∧ A ops.length = aa' ∧ S ops.length = s' := by
  obtain ⟨ss, A, S, h1, h2, h3, h4, h5, h6, h7⟩ := draw_text ops _ _ _ _ h
  refine ⟨ss, A, S, ⟨h5, h6, fun j k x y hj hx hy hb => ?_⟩, h1, h2, h3, h4⟩
  obtain ⟨w, g1, g2, g3⟩ := h7 k y hy
  refine g3 j x hj hx ?_
  unfold W at hb
  rw [List.getD_eq_getElem?_getD, g1] at hb
  simpa using hb
end
end Go.Proofs.YtmabpnmnppfgaaaGreatDoor.Rk
namespace Go.Proofs.YtmabpnmnppfgaaaGreatDoor.Rk
open Go
set_option linter.unusedVariables false
theorem hit_all {e : LE} {b i : Nat} (h : e.at b i) : (LE.all b).hits e = true ∧ e.hits (LE.all b) = true := by
  cases e with
  | rd c j n => obtain ⟨rfl, _⟩ := h; exact ⟨by simp [LE.hits, LE.blk], by simp [LE.hits, LE.blk]⟩
  | wr c j n => obtain ⟨rfl, _⟩ := h; exact ⟨by simp [LE.hits, LE.blk], by simp [LE.hits, LE.blk]⟩
  | all c => cases h; exact ⟨by simp [LE.hits, LE.blk], by simp [LE.hits, LE.blk]⟩
theorem hit_wr {e f : LE} {b i : Nat} (h : e.at b i) (hf : f.wrote b i) : f.hits e = true ∧ e.hits f = true := by
  cases f with
  | rd c j n => exact hf.elim
  | all c => exact hf.elim
  | wr c j n =>
    obtain ⟨rfl, h1, h2⟩ := hf
    cases e with
    | rd d k m => obtain ⟨rfl, h3, h4⟩ := h; exact ⟨by simp [LE.hits]; omega, by simp [LE.hits]; omega⟩
    | wr d k m => obtain ⟨rfl, h3, h4⟩ := h; exact ⟨by simp [LE.hits]; omega, by simp [LE.hits]; omega⟩
    | all d => cases h; exact ⟨by simp [LE.hits, LE.blk], by simp [LE.hits, LE.blk]⟩
theorem clash_inv {x y : Stp} (h : x.rc.clash y.rc = false) : (∀ e ∈ x.q.log, ∀ f ∈ y.q.log, e.hits f = false) ∧ (∀ f ∈ y.q.log, ¬ (x.p.n ≤ f.blk ∧ f.blk < x.q.n)) ∧ ¬ (x.wr = true ∧ y.wr = true) := by
  unfold Rec.clash at h
  simp only [Bool.or_eq_false_iff] at h
  obtain ⟨⟨h1, h2⟩, h3⟩ := h
  refine ⟨fun e he f hf => ?_, fun f hf hh => ?_, fun ⟨h4, h5⟩ => ?_⟩
  · have h4 : (y.rc.log.any fun f => e.hits f) = false := by simpa using List.any_eq_false.1 h1 e he
    simpa using List.any_eq_false.1 h4 f hf
  · have := List.any_eq_false.1 h2 f hf
    unfold LE.made at this
    apply this
    simp only [Bool.and_eq_true, decide_eq_true_eq]
    exact hh
  · have : (x.rc.log.any (·.writes) && y.rc.log.any (·.writes)) = true := by
      simp only [Bool.and_eq_true]
      exact ⟨h4, h5⟩
    rw [this] at h3
    cases h3
theorem quiet_of {x : Stp} (h : x.wr = false) {b i : Nat} : LE.all b ∉ x.q.log ∧ ∀ e ∈ x.q.log, ¬ e.wrote b i := by
  have := List.any_eq_false.1 h
  refine ⟨fun hm => this _ hm rfl, fun e he hw => ?_⟩
  cases e with
  | wr c j n => exact this _ he rfl
  | rd => exact hw.elim
  | all => exact hw.elim
def AgB (Tb : Nat → Prop) : ABlk → ABlk → Prop
  | .cells t cs, y => ∃ cs', y = .cells t cs' ∧ cs'.length = cs.length ∧ ∀ i, Tb i → cs'[i]? = cs[i]?
  | x, y => y = x
theorem AgB.refl (Tb : Nat → Prop) (x : ABlk) : AgB Tb x x := by
  cases x <;> first | rfl | exact ⟨_, rfl, rfl, fun _ _ => rfl⟩
theorem AgB.trans {Tb : Nat → Prop} {x y z : ABlk} (h : AgB Tb x y) (k : AgB Tb y z) : AgB Tb x z := by
  cases x with
  | cells t cs =>
    obtain ⟨cs', rfl, h2, h3⟩ := h
    obtain ⟨cs2, rfl, k2, k3⟩ := k
    exact ⟨cs2, rfl, k2.trans h2, fun i hi => (k3 i hi).trans (h3 i hi)⟩
  | _ => cases h; exact k
theorem AgB.symm {Tb : Nat → Prop} {x y : ABlk} (h : AgB Tb x y) : AgB Tb y x := by
  cases x with
  | cells t cs =>
    obtain ⟨cs', rfl, h2, h3⟩ := h
    exact ⟨cs, rfl, h2.symm, fun i hi => (h3 i hi).symm⟩
  | _ => cases h; exact AgB.refl _ _
theorem AgB.live {Tb : Nat → Prop} {x y : ABlk} (h : AgB Tb x y) (hl : live x) : live y := by
  cases x with
  | cells t cs => obtain ⟨cs', rfl, _⟩ := h; trivial
  | _ => cases h; exact hl
theorem AgB.eq {x y : ABlk} (h : AgB (fun _ => True) x y) : y = x := by
  cases x with
  | cells t cs =>
    obtain ⟨cs', rfl, h2, h3⟩ := h
    congr 1
    exact List.ext_getElem? (fun i => h3 i trivial)
  | _ => exact h
theorem BR.agree {ρ : Env} {Tb T : Nat → Prop} {b : Nat} {w : World} {x y : ABlk} (h : BR ρ T b w x) (ha : AgB Tb x y) (hT : ∀ i, Tb i → T i) : BR ρ Tb b w y := by
  cases x with
  | cells t cs =>
    obtain ⟨cs', rfl, h2, h3⟩ := ha
    obtain ⟨r, c, fr, g1, g2, g3, g4, g5, g6⟩ := h
    exact ⟨r, c, fr, g1, g2, g3, by rw [h2]; exact g4, g5, fun i a hi ht => g6 i a (by rw [← h3 i ht]; exact hi) (hT i ht)⟩
  | map _ _ => cases ha; exact h
  | miter _ _ _ _ => cases ha; exact h
  | siter _ _ => cases ha; exact h
  | pmap _ => cases ha; exact h
  | defd => cases ha; exact h
  | loop _ _ _ _ _ _ _ _ => cases ha; exact h
  | dead => cases ha; exact h
theorem Keep.ag {log : List LE} {b : Nat} {x : ABlk} {y : Option ABlk} {Tb : Nat → Prop} (h : Keep log b x y) (hn : ∀ i, Tb i → ∀ e ∈ log, ¬ e.wrote b i) : ∃ z, y = Option.some z ∧ AgB Tb x z := by
  cases x with
  | cells t cs => obtain ⟨cs', rfl, h2, h3⟩ := h; exact ⟨_, rfl, cs', rfl, h2, fun i hi => h3 i (hn i hi)⟩
  | _ => exact ⟨_, h, rfl⟩
section
variable {P : Program} {C : Callee} {Y : Yielder} (hC : CSound P C) (hY : YSound P Y) {ops : List Oper} {ss : List Stp} {A : Nat → AAct} {S : Nat → St} (X : Text P C Y ops ss A S) (hw0 : WfS (S 0))
include hC hY X hw0
theorem tx_get {k : Nat} (hk : k < ops.length) : ∃ x o, ss[k]? = some x ∧ ops[k]? = some o := by
  have _all := (⟨hC, hY, hw0⟩ : _ ∧ _ ∧ _)
  exact ⟨_, _, List.getElem?_eq_getElem (by rw [X.len]; exact hk), List.getElem?_eq_getElem hk⟩
theorem tx_step {k : Nat} {x : Stp} (hx : ss[k]? = some x) (hwf : WfS (S k)) : Mono x.p x.q ∧ x.p.heap = (S k).heap ∧ x.p.n = (S k).n ∧ x.p.log = [] ∧ (S (k + 1)).heap = x.q.heap ∧ (S (k + 1)).n = x.q.n ∧ (S (k + 1)).log = x.q.log ++ (S k).log := by
  have _all := hw0
  have hk : k < ops.length := by have := (List.getElem?_eq_some_iff.1 hx).1; rw [X.len] at this; exact this
  obtain ⟨h1, h2, h3, h4⟩ := X.at_ k x _ hx (List.getElem?_eq_getElem hk)
  refine ⟨?_, by rw [h1], by rw [h1], by rw [h1], by rw [h3], by rw [h3], by rw [h3]⟩
  rcases h4 with ⟨_, h4⟩ | ⟨_, _, h4⟩
  · exact oneVal_mono hC hY h4 (by rw [h1]; exact hwf)
  · rw [h4]; exact Mono.refl _
theorem tx_wf : ∀ k, k ≤ ops.length → WfS (S k)
  | 0, _ => hw0
  | k + 1, hk => by
    have ih := tx_wf k (by omega)
    obtain ⟨x, o, hx, _⟩ := tx_get hC hY X hw0 (show k < ops.length by omega)
    obtain ⟨m, h1, h2, h3, h4, h5, h6⟩ := tx_step hC hY X hw0 hx ih
    have := m.wf (by intro b hb; rw [h1]; exact ih b (by omega))
    intro b hb
    rw [h4]
    exact this b (by omega)
theorem tx_n : ∀ j i, i ≤ j → j ≤ ops.length → (S i).n ≤ (S j).n
  | 0, i, hi, _ => by have : i = 0 := by omega
                      subst this; exact Nat.le_refl _
  | j + 1, i, hi, hj => by
    by_cases h : i = j + 1
    · subst h; exact Nat.le_refl _
    · have ih := tx_n j i (by omega) (by omega)
      obtain ⟨x, o, hx, _⟩ := tx_get hC hY X hw0 (show j < ops.length by omega)
      obtain ⟨m, h1, h2, h3, h4, h5, h6⟩ := tx_step hC hY X hw0 hx (tx_wf hC hY X hw0 j (by omega))
      have := m.n
      omega
theorem tx_log : ∀ j i, i ≤ j → j ≤ ops.length → ∀ e ∈ (S i).log, e ∈ (S j).log
  | 0, i, hi, _ => by have : i = 0 := by omega
                      subst this; exact fun _ h => h
  | j + 1, i, hi, hj => by
    by_cases h : i = j + 1
    · subst h; exact fun _ h => h
    · have ih := tx_log j i (by omega) (by omega)
      obtain ⟨x, o, hx, _⟩ := tx_get hC hY X hw0 (show j < ops.length by omega)
      obtain ⟨m, h1, h2, h3, h4, h5, h6⟩ := tx_step hC hY X hw0 hx (tx_wf hC hY X hw0 j (by omega))
      intro e he
      rw [h6]
      exact List.mem_append_right _ (ih e he)
theorem tx_mem {k : Nat} {x : Stp} (hx : ss[k]? = some x) : ∀ e ∈ x.q.log, e ∈ (S ops.length).log := by
  have hk : k < ops.length := by have := (List.getElem?_eq_some_iff.1 hx).1; rw [X.len] at this; exact this
  obtain ⟨m, h1, h2, h3, h4, h5, h6⟩ := tx_step hC hY X hw0 hx (tx_wf hC hY X hw0 k (by omega))
  intro e he
  exact tx_log hC hY X hw0 ops.length (k + 1) (by omega) (Nat.le_refl _) e (by rw [h6]; exact List.mem_append_left _ he)
theorem tx_made {b : Nat} : ∀ (j i : Nat), i ≤ j → j ≤ ops.length → (S i).n ≤ b → b < (S j).n → ∃ k, i ≤ k ∧ k < j ∧ (S k).n ≤ b ∧ b < (S (k + 1)).n
  | 0, i, hi, _, h1, h2 => by
    have _all := (⟨hC, hY, X, hw0⟩ : _ ∧ _ ∧ _ ∧ _)
    have : i = 0 := by omega
    subst this
    omega
  | j + 1, i, hi, hj, h1, h2 => by
    by_cases h : b < (S j).n
    · by_cases hij : i = j + 1
      · subst hij; omega
      · obtain ⟨k, g1, g2, g3⟩ := tx_made j i (by omega) (by omega) h1 h
        exact ⟨k, g1, by omega, g3⟩
    · by_cases hij : i = j + 1
      · subst hij; omega
      · exact ⟨j, by omega, by omega, by omega, h2⟩
theorem tx_one {b k j : Nat} (hk : k < ops.length) (hj : j < ops.length) (h1 : (S k).n ≤ b) (h2 : b < (S (k + 1)).n) (h3 : (S j).n ≤ b) (h4 : b < (S (j + 1)).n) : k = j := by
  rcases Nat.lt_trichotomy k j with h | h | h
  · have := tx_n hC hY X hw0 j (k + 1) (by omega) (by omega); omega
  · exact h
  · have := tx_n hC hY X hw0 k (j + 1) (by omega) (by omega); omega
theorem tx_live {b : Nat} : ∀ (j i : Nat), i ≤ j → j ≤ ops.length → b < (S i).n → ∀ y, (S j).heap.get b = some y → live y → ∃ z, (S i).heap.get b = some z ∧ live z
  | 0, i, hi, _, hb, y, hy, hl => by
    have : i = 0 := by omega
    subst this
    exact ⟨y, hy, hl⟩
  | j + 1, i, hi, hj, hb, y, hy, hl => by
    by_cases h : i = j + 1
    · subst h; exact ⟨y, hy, hl⟩
    · obtain ⟨x, o, hx, _⟩ := tx_get hC hY X hw0 (show j < ops.length by omega)
      have hwf := tx_wf hC hY X hw0 j (by omega)
      obtain ⟨m, h1, h2, h3, h4, h5, h6⟩ := tx_step hC hY X hw0 hx hwf
      have hn := tx_n hC hY X hw0 j i (by omega) (by omega)
      obtain ⟨z, hz, hzl⟩ := m.lv (by intro b hb; rw [h1]; exact hwf b (by omega)) b y (by omega) (by rw [← h4]; exact hy) hl
      rw [h1] at hz
      exact tx_live j i (by omega) (by omega) hb z hz hzl
theorem tx_path {b : Nat} {Tb : Nat → Prop} : ∀ (j i : Nat), i ≤ j → j ≤ ops.length → (∀ l x, i ≤ l → l < j → ss[l]? = some x → LE.all b ∉ x.q.log ∧ ∀ i, Tb i → ∀ e ∈ x.q.log, ¬ e.wrote b i) → ∀ z, (S i).heap.get b = some z → ∃ y, (S j).heap.get b = some y ∧ AgB Tb z y
  | 0, i, hi, _, hq, z, hz => by
    have : i = 0 := by omega
    subst this
    exact ⟨z, hz, AgB.refl _ _⟩
  | j + 1, i, hi, hj, hq, z, hz => by
    by_cases h : i = j + 1
    · subst h; exact ⟨z, hz, AgB.refl _ _⟩
    · obtain ⟨y, hy, hag⟩ := tx_path j i (by omega) (by omega) (fun l x h1 h2 hx => hq l x h1 (by omega) hx) z hz
      obtain ⟨x, o, hx, _⟩ := tx_get hC hY X hw0 (show j < ops.length by omega)
      have hwf := tx_wf hC hY X hw0 j (by omega)
      obtain ⟨m, h1, h2, h3, h4, h5, h6⟩ := tx_step hC hY X hw0 hx hwf
      obtain ⟨q1, q2⟩ := hq j x (by omega) (by omega) hx
      have hk := m.keep (by intro b hb; rw [h1]; exact hwf b (by omega)) b y (by rw [h1]; exact hy) q1
      obtain ⟨y', hy', hag'⟩ := Keep.ag hk q2
      exact ⟨y', by rw [h4]; exact hy', hag.trans hag'⟩
end
end Go.Proofs.YtmabpnmnppfgaaaGreatDoor.Rk
namespace Go.Proofs.YtmabpnmnppfgaaaGreatDoor.Rk
open Go
set_option linter.unusedVariables false
def updL (L : Nat → Bool) (k : Nat) : Nat → Bool := fun j => if j = k then true else L j
def TL (ops : List Oper) (S : Nat → St) (T : Nat → Nat → Prop) (L : Nat → Bool) : Nat → Nat → Prop := fun b i => T b i ∨ ∃ j, j < ops.length ∧ L j = true ∧ (S j).n ≤ b ∧ b < (S (j + 1)).n
structure DInv (ops : List Oper) (ss : List Stp) (S : Nat → St) (sz : Nat) (ρ0 : Env) (T : Nat → Nat → Prop) (w0 : World) (a0 : Act) (L : Nat → Bool) (E : Nat) (h : Nat → Option ABlk) (ρ : Env) (a : Act) (w : World) : Prop where
  size : a.tmps.size = sz
  defs : a.defers = a0.defers
  old : ∀ t, (∀ (j : Nat) (o : Oper), ops[j]? = some o → L j = true → o.dst ≠ some t) → a.tmps.getD t undef = a0.tmps.getD t undef
  val : ∀ (j : Nat) (x : Stp) (o : Oper) t, ss[j]? = some x → L j = true → ops[j]? = some o → o.dst = some t → VR ρ x.v (a.tmps.getD t undef)
  ext : ρ0.le ρ
  new : ∀ b r, ρ b = some r → ρ0 b = some r ∨ ∃ j, j < ops.length ∧ L j = true ∧ (S j).n ≤ b ∧ b < (S (j + 1)).n
  fr : ∀ b r, ρ0 b = none → ρ b = some r → r.blk < w0.heap.size → All ρ0 (S ops.length).log r.blk
  good : Good ρ (TL ops S T L) h w
  unch : Unch ρ0 (S ops.length).log w0 w
  closed : ∀ k j, L k = true → (W ops k).testBit j = true → L j = true
  wrs : ∀ (j : Nat) (x : Stp), ss[j]? = some x → x.wr = true → (L j = true ↔ j < E)
  top : E ≤ ops.length
  h1 : ∀ b y, live y → b < (S E).n → (∃ i, TL ops S T L b i) → (h b = some y ↔ (S E).heap.get b = some y)
  h2 : ∀ j b y, live y → L j = true → E ≤ j → j < ops.length → (S j).n ≤ b → b < (S (j + 1)).n → (h b = some y ↔ (S (j + 1)).heap.get b = some y)
section
variable {P : Program} {C : Callee} {Y : Yielder} (hC : CSound P C) (hY : YSound P Y) {ops : List Oper} {ss : List Stp} {A : Nat → AAct} {S : Nat → St} (X : Text P C Y ops ss A S) (hw0 : WfS (S 0))
  {ρ0 : Env} {T : Nat → Nat → Prop} {w0 : World} {a0 : Act} (hp : Pre ρ0 T (S 0) (S ops.length) w0)
include hC hY X hw0 hp
theorem dv_told {L : Nat → Bool} {E : Nat} {h : Nat → Option ABlk} {ρ : Env} {a : Act} {w : World} (I : DInv ops ss S (A 0).sz ρ0 T w0 a0 L E h ρ a w) {k : Nat} {x : Stp} (hx : ss[k]? = some x) (hrdy : ∀ j, (W ops k).testBit j = true → L j = true)
    {e : LE} (he : e ∈ x.q.log) {i : Nat} (hi : e.at e.blk i) (hb : e.blk < (S k).n) : TL ops S T L e.blk i := by
  have hk : k < ops.length := by have := (List.getElem?_eq_some_iff.1 hx).1; rw [X.len] at this; exact this
  by_cases h0 : e.blk < (S 0).n
  · exact .inl (hp.cov e (tx_mem hC hY X hw0 hx e he) h0 _ _ hi)
  · obtain ⟨j, g1, g2, g3, g4⟩ := tx_made hC hY X hw0 (b := e.blk) k 0 (by omega) (by omega) (by omega) hb
    refine .inr ⟨j, by omega, ?_, g3, g4⟩
    cases hbit : (W ops k).testBit j with
    | true => exact hrdy j hbit
    | false =>
      obtain ⟨y, o, hy, _⟩ := tx_get hC hY X hw0 (show j < ops.length by omega)
      obtain ⟨_, _, n1, _, _, n2, _⟩ := tx_step hC hY X hw0 hy (tx_wf hC hY X hw0 j (by omega))
      have := (clash_inv (X.clash j k y x g2 hy hx hbit)).2.1 e he
      exact absurd ⟨by omega, by omega⟩ this
theorem dv_live {k : Nat} {x : Stp} (hx : ss[k]? = some x) {e : LE} (he : e ∈ x.q.log) (hb : e.blk < (S k).n) : ∃ z, (S k).heap.get e.blk = some z ∧ live z := by
  have _all := hp
  have hk : k < ops.length := by have := (List.getElem?_eq_some_iff.1 hx).1; rw [X.len] at this; exact this
  have hwf := tx_wf hC hY X hw0 k (by omega)
  obtain ⟨m, h1, h2, h3, _⟩ := tx_step hC hY X hw0 hx hwf
  rcases m.lw (by intro b hb; rw [h1]; exact hwf b (by omega)) e he with h4 | h4 | h4
  · rw [h3] at h4; simp at h4
  · omega
  · rw [h1] at h4; exact h4
def TK (S : Nat → St) (k : Nat) (x : Stp) : Nat → Nat → Prop := fun b i => b < (S k).n ∧ ∃ e ∈ x.q.log, e.at b i
omit hC hY X hw0 hp in
theorem at_blk' {e : LE} {b i : Nat} (h : e.at b i) : e.blk = b := by cases e <;> first | exact h.1 | exact h
theorem dv_TL {L : Nat → Bool} {E : Nat} {h : Nat → Option ABlk} {ρ : Env} {a : Act} {w : World} (I : DInv ops ss S (A 0).sz ρ0 T w0 a0 L E h ρ a w) {k : Nat} {x : Stp} (hx : ss[k]? = some x) (hrdy : ∀ j, (W ops k).testBit j = true → L j = true) {b i : Nat} (ht : TK S k x b i) : TL ops S T L b i := by
  obtain ⟨hb, e, he, hi⟩ := ht
  have := at_blk' hi
  subst this
  exact dv_told hC hY X hw0 hp I hx hrdy he hi hb
theorem dv_agree {L : Nat → Bool} {E : Nat} {h : Nat → Option ABlk} {ρ : Env} {a : Act} {w : World} (I : DInv ops ss S (A 0).sz ρ0 T w0 a0 L E h ρ a w) {k : Nat} {x : Stp} (hx : ss[k]? = some x) (hL : L k = false) (hrdy : ∀ j, (W ops k).testBit j = true → L j = true) {b i : Nat} (ht : TK S k x b i) :
    ∃ y z, (S k).heap.get b = some y ∧ h b = some z ∧ live y ∧ AgB (TK S k x b) z y := by
  have hk : k < ops.length := by have := (List.getElem?_eq_some_iff.1 hx).1; rw [X.len] at this; exact this
  have hTL := dv_TL hC hY X hw0 hp I hx hrdy ht
  obtain ⟨hb, e, he, hi⟩ := ht
  have hbe := at_blk' hi
  obtain ⟨y, hy, hyl⟩ := dv_live hC hY X hw0 hp hx he (by rw [hbe]; exact hb)
  rw [hbe] at hy
  have quiet : ∀ l y', ss[l]? = some y' → ((l < k ∧ L l = false) ∨ (k < l ∧ L l = true)) ∨ y'.wr = false → LE.all b ∉ y'.q.log ∧ ∀ i, TK S k x b i → ∀ e ∈ y'.q.log, ¬ e.wrote b i := by
    intro l y' hy' hcase
    rcases hcase with hcase | hcase
    · have hcl : (∀ f ∈ y'.q.log, ∀ e ∈ x.q.log, f.hits e = false ∨ e.hits f = false) := by
        intro f hf e he
        rcases hcase with ⟨h1, h2⟩ | ⟨h1, h2⟩
        · have hbit : (W ops k).testBit l = false := by
            cases hh : (W ops k).testBit l with
            | true => rw [hrdy l hh] at h2; cases h2
            | false => rfl
          exact .inl ((clash_inv (X.clash l k y' x h1 hy' hx hbit)).1 f hf e he)
        · have hbit : (W ops l).testBit k = false := by
            cases hh : (W ops l).testBit k with
            | true => rw [I.closed l k h2 hh] at hL; cases hL
            | false => rfl
          exact .inr ((clash_inv (X.clash k l x y' h1 hx hy' hbit)).1 e he f hf)
      refine ⟨fun hall => ?_, fun i' ⟨_, e', he', hi'⟩ f hf hw => ?_⟩
      · obtain ⟨q1, q2⟩ := hit_all hi
        rcases hcl _ hall e he with h3 | h3
        · rw [q1] at h3; cases h3
        · rw [q2] at h3; cases h3
      · obtain ⟨q1, q2⟩ := hit_wr hi' hw
        rcases hcl _ hf e' he' with h3 | h3
        · rw [q1] at h3; cases h3
        · rw [q2] at h3; cases h3
    · exact ⟨(quiet_of (i := 0) hcase).1, fun i' _ => (quiet_of hcase).2⟩
  by_cases hEk : E ≤ k
  ·
    have hq : ∀ i0, E ≤ i0 → ∀ l y', i0 ≤ l → l < k → ss[l]? = some y' → LE.all b ∉ y'.q.log ∧ ∀ i, TK S k x b i → ∀ e ∈ y'.q.log, ¬ e.wrote b i := by
      intro i0 hi0 l y' h1 h2 hy'
      refine quiet l y' hy' ?_
      cases hwr : y'.wr with
      | false => exact .inr rfl
      | true =>
        refine .inl (.inl ⟨h2, ?_⟩)
        cases hl : L l with
        | false => rfl
        | true => have := (I.wrs l y' hy' hwr).1 hl; omega
    by_cases hbE : b < (S E).n
    · obtain ⟨z, hz, hzl⟩ := tx_live hC hY X hw0 k E hEk (by omega) hbE y hy hyl
      obtain ⟨y2, hy2, hag⟩ := tx_path hC hY X hw0 k E hEk (by omega) (hq E (Nat.le_refl _)) z hz
      rw [hy] at hy2
      cases hy2
      exact ⟨y, z, hy, (I.h1 b z hzl hbE ⟨i, hTL⟩).2 hz, hyl, hag⟩
    · obtain ⟨j, g1, g2, g3, g4⟩ := tx_made hC hY X hw0 (b := b) k E hEk (by omega) (by omega) hb
      have hLj : L j = true := by
        cases hbit : (W ops k).testBit j with
        | true => exact hrdy j hbit
        | false =>
          obtain ⟨y', o, hy', _⟩ := tx_get hC hY X hw0 (show j < ops.length by omega)
          obtain ⟨_, _, n1, _, _, n2, _⟩ := tx_step hC hY X hw0 hy' (tx_wf hC hY X hw0 j (by omega))
          have := (clash_inv (X.clash j k y' x g2 hy' hx hbit)).2.1 e he
          exact absurd ⟨by omega, by omega⟩ this
      obtain ⟨z, hz, hzl⟩ := tx_live hC hY X hw0 k (j + 1) (by omega) (by omega) g4 y hy hyl
      obtain ⟨y2, hy2, hag⟩ := tx_path hC hY X hw0 k (j + 1) (by omega) (by omega) (hq (j + 1) (by omega)) z hz
      rw [hy] at hy2
      cases hy2
      exact ⟨y, z, hy, (I.h2 j b z hzl hLj g1 (by omega) g3 g4).2 hz, hyl, hag⟩
  · have hkE : k < E := by omega
    have hnw : x.wr = false := by
      cases hwr : x.wr with
      | false => rfl
      | true => rw [(I.wrs k x hx hwr).2 hkE] at hL; cases hL
    have hbE : b < (S E).n := Nat.lt_of_lt_of_le hb (tx_n hC hY X hw0 E k (by omega) I.top)
    obtain ⟨z, hz, hag⟩ := tx_path hC hY X hw0 E k (by omega) I.top (fun l y' h1 h2 hy' => by
      refine quiet l y' hy' ?_
      by_cases hlk : l = k
      · subst hlk
        rw [hx] at hy'
        cases hy'
        exact .inr hnw
      · cases hwr : y'.wr with
        | false => exact .inr rfl
        | true => exact .inl (.inr ⟨by omega, (I.wrs l y' hy' hwr).2 h2⟩)) y hy
    exact ⟨y, z, hy, (I.h1 b z (hag.live hyl) hbE ⟨i, hTL⟩).2 hz, hyl, hag.symm⟩
theorem dv_pre {L : Nat → Bool} {E : Nat} {h : Nat → Option ABlk} {ρ : Env} {a : Act} {w : World} (I : DInv ops ss S (A 0).sz ρ0 T w0 a0 L E h ρ a w) {k : Nat} {x : Stp} (hx : ss[k]? = some x) (hL : L k = false) (hrdy : ∀ j, (W ops k).testBit j = true → L j = true) :
    Pre ρ (TK S k x) x.p x.q w := by
  have hk : k < ops.length := by have := (List.getElem?_eq_some_iff.1 hx).1; rw [X.len] at this; exact this
  have hwf := tx_wf hC hY X hw0 k (by omega)
  obtain ⟨m, p1, p2, p3, p4, p5, p6⟩ := tx_step hC hY X hw0 hx hwf
  refine ⟨⟨fun b y hy ⟨i, hi⟩ => ?_, fun b b' r r' y y' hy hy' hl hl' ⟨i, hi⟩ ⟨i', hi'⟩ hr hr' e => ?_, I.good.old⟩, fun e he hb b i hi => ?_, fun b h1 h2 => ?_, by intro b hb; rw [p1]; exact hwf b (by omega), fun b i hi => by rw [p2]; exact hi.1⟩
  · rw [p1] at hy
    obtain ⟨y0, z, g1, g2, g3, g4⟩ := dv_agree hC hY X hw0 hp I hx hL hrdy hi
    rw [g1] at hy
    cases hy
    exact (I.good.sat b z g2 ⟨i, dv_TL hC hY X hw0 hp I hx hrdy hi⟩).agree g4 (fun j hj => dv_TL hC hY X hw0 hp I hx hrdy hj)
  · rw [p1] at hy hy'
    obtain ⟨y0, z, g1, g2, g3, g4⟩ := dv_agree hC hY X hw0 hp I hx hL hrdy hi
    obtain ⟨y0', z', g1', g2', g3', g4'⟩ := dv_agree hC hY X hw0 hp I hx hL hrdy hi'
    exact I.good.inj b b' r r' z z' g2 g2' (g4.symm.live g3) (g4'.symm.live g3') ⟨i, dv_TL hC hY X hw0 hp I hx hrdy hi⟩ ⟨i', dv_TL hC hY X hw0 hp I hx hrdy hi'⟩ hr hr' e
  · have := at_blk' hi
    exact ⟨by omega, e, he, hi⟩
  · cases hr : ρ b with
    | none => rfl
    | some r =>
      exfalso
      rcases I.new b r hr with h3 | ⟨j, h3, h4, h5, h6⟩
      · have := tx_n hC hY X hw0 k 0 (by omega) (by omega)
        have := tx_n hC hY X hw0 ops.length (k + 1) (by omega) (Nat.le_refl _)
        rw [hp.fresh b (by omega) (by omega)] at h3
        cases h3
      · have := tx_one hC hY X hw0 (b := b) hk h3 (by omega) (by omega) h5 h6
        subst this
        rw [hL] at h4
        cases h4
theorem dv_step {L : Nat → Bool} {E : Nat} {h : Nat → Option ABlk} {ρ ρ' : Env} {a : Act} {w w' : World} (I : DInv ops ss S (A 0).sz ρ0 T w0 a0 L E h ρ a w) {k : Nat} {x : Stp} {o : Oper} (hx : ss[k]? = some x) (ho : ops[k]? = some o) (hL : L k = false) (hrdy : ∀ j, (W ops k).testBit j = true → L j = true)
    (hdst : ∀ d, o.dst = some d → d < (A 0).sz ∧ ∀ (j : Nat) (q : Oper), ops[j]? = some q → q.dst = some d → j = k) (hpost : Post ρ (TK S k x) x.p w ρ' x.q w') {v' : Value} (hv : VR ρ' x.v v') :
    ∃ E' h', DInv ops ss S (A 0).sz ρ0 T w0 a0 (updL L k) E' h' ρ' (a.put o.dst v') w' := by
  have hk : k < ops.length := by have := (List.getElem?_eq_some_iff.1 hx).1; rw [X.len] at this; exact this
  have hwf := tx_wf hC hY X hw0 k (by omega)
  obtain ⟨m, p1, p2, p3, p4, p5, p6⟩ := tx_step hC hY X hw0 hx hwf
  have hpre := dv_pre hC hY X hw0 hp I hx hL hrdy
  have hLk : ∀ j, updL L k j = true ↔ j = k ∨ L j = true := fun j => by unfold updL; by_cases h : j = k <;> simp [h]
  have hTL : ∀ b i, TL ops S T (updL L k) b i ↔ Tn (TL ops S T L) x.p.n x.q.n b i := by
    intro b i
    constructor
    · rintro (h1 | ⟨j, h1, h2, h3, h4⟩)
      · exact .inl (.inl h1)
      · rcases (hLk j).1 h2 with rfl | h2
        · exact .inr ⟨by omega, by omega⟩
        · exact .inl (.inr ⟨j, h1, h2, h3, h4⟩)
    · rintro ((h1 | ⟨j, h1, h2, h3, h4⟩) | h1)
      · exact .inl h1
      · exact .inr ⟨j, h1, (hLk j).2 (.inr h2), h3, h4⟩
      · exact .inr ⟨k, hk, (hLk k).2 (.inl rfl), by omega, by omega⟩
  have hTLe : TL ops S T (updL L k) = Tn (TL ops S T L) x.p.n x.q.n := by funext b i; exact propext (hTL b i)
  have hnewno : ∀ b i, x.p.n ≤ b → b < x.q.n → ¬ TL ops S T L b i := by
    rintro b i h1 h2 (h3 | ⟨j, h3, h4, h5, h6⟩)
    · have := hp.tn b i h3
      have := tx_n hC hY X hw0 k 0 (by omega) (by omega)
      omega
    · have := tx_one hC hY X hw0 (b := b) hk h3 (by omega) (by omega) h5 h6
      subst this
      rw [hL] at h4
      cases h4
  have hcov : ∀ e ∈ x.q.log, e.blk < x.p.n → ∀ i, e.at e.blk i → TK S k x e.blk i := fun e he hb i hi => ⟨by omega, e, he, hi⟩
  have hlive : ∀ b, (∃ i, TK S k x b i) → ∃ z, h b = some z ∧ live z := fun b ⟨i, hi⟩ => by
    obtain ⟨y0, z, g1, g2, g3, g4⟩ := dv_agree hC hY X hw0 hp I hx hL hrdy hi
    exact ⟨z, g2, g4.symm.live g3⟩
  have hput : (a.put o.dst v').tmps.size = (A 0).sz ∧ (a.put o.dst v').defers = a0.defers := by
    cases hd : o.dst with
    | none => exact ⟨I.size, I.defs⟩
    | some d => exact ⟨by simp [Act.put, I.size], I.defs⟩
  have hgetne : ∀ t, o.dst ≠ some t → (a.put o.dst v').tmps.getD t undef = a.tmps.getD t undef := fun t ht => by
    cases hd : o.dst with
    | none => rfl
    | some d =>
      have : d ≠ t := fun e => ht (by rw [hd, e])
      simp [Act.put, Array.getD_eq_getD_getElem?, this]
  have hgeteq : ∀ t, o.dst = some t → (a.put o.dst v').tmps.getD t undef = v' := fun t ht => by
    rw [ht]
    have := (hdst t ht).1
    simp [Act.put, Array.getD_eq_getD_getElem?, I.size, this]
  have hold : ∀ t, (∀ (j : Nat) (q : Oper), ops[j]? = some q → updL L k j = true → q.dst ≠ some t) → (a.put o.dst v').tmps.getD t undef = a0.tmps.getD t undef := fun t ht => by
    rw [hgetne t (ht k o ho ((hLk k).2 (.inl rfl)))]
    exact I.old t (fun j q hq hj => ht j q hq ((hLk j).2 (.inr hj)))
  have hval : ∀ (j : Nat) (y : Stp) (q : Oper) t, ss[j]? = some y → updL L k j = true → ops[j]? = some q → q.dst = some t → VR ρ' y.v ((a.put o.dst v').tmps.getD t undef) := fun j y q t hy hj hq ht => by
    rcases (hLk j).1 hj with rfl | hj'
    · rw [hx] at hy
      rw [ho] at hq
      cases hy
      cases hq
      rw [hgeteq t ht]
      exact hv
    · rw [hgetne t (fun e => by
        have := (hdst t e).2 j q hq ht
        rw [this, hL] at hj'
        cases hj')]
      exact (I.val j y q t hy hj' hq ht).mono hpost.ext
  have hclosed : ∀ i j, updL L k i = true → (W ops i).testBit j = true → updL L k j = true := fun i j hi hj => by
    rcases (hLk i).1 hi with rfl | hi
    · exact (hLk j).2 (.inr (hrdy j hj))
    · exact (hLk j).2 (.inr (I.closed i j hi hj))
  have hnew : ∀ b r, ρ' b = some r → ρ0 b = some r ∨ ∃ j, j < ops.length ∧ updL L k j = true ∧ (S j).n ≤ b ∧ b < (S (j + 1)).n := fun b r hr => by
    rcases hpost.new b r hr with h3 | h3
    · rcases I.new b r h3 with h4 | ⟨j, h4, h5, h6⟩
      · exact .inl h4
      · exact .inr ⟨j, h4, (hLk j).2 (.inr h5), h6⟩
    · exact .inr ⟨k, hk, (hLk k).2 (.inl rfl), by omega, by omega⟩
  have hlogs : ∀ e ∈ x.q.log, e ∈ (S ops.length).log := tx_mem hC hY X hw0 hx
  have hfrI : ∀ b r, ρ0 b = none → ρ b = some r → r.blk < w0.heap.size → All ρ0 (S ops.length).log r.blk := I.fr
  have hfr : ∀ b r, ρ0 b = none → ρ' b = some r → r.blk < w0.heap.size → All ρ0 (S ops.length).log r.blk := fun b r h1 h2 h3 => by
    cases h4 : ρ b with
    | some r1 =>
      have : r1 = r := Option.some.inj ((hpost.ext _ _ h4).symm.trans h2)
      subst this
      exact hfrI b r1 h1 h4 h3
    | none => exact ((hpost.fr b r h4 h2 (Nat.lt_of_lt_of_le h3 I.unch.size)).mono (Env.le_refl ρ) hlogs).back h3 (fun e he => he) I.ext hfrI
  have hunch : Unch ρ0 (S ops.length).log w0 w' := by
    have hu : Unch ρ (S ops.length).log w w' := ⟨hpost.unch.os, hpost.unch.tape, hpost.unch.output, hpost.unch.size, fun B hB hn => hpost.unch.block B hB (fun o hw => hn o (hw.mono (Env.le_refl ρ) hlogs)), fun B c t fr hc hna => by
      obtain ⟨c', g1, g2, g3⟩ := hpost.unch.cells B c t fr hc (fun ha => hna (ha.mono (Env.le_refl ρ) hlogs))
      exact ⟨c', g1, g2, fun o ho => g3 o (fun hw => ho (hw.mono (Env.le_refl ρ) hlogs))⟩⟩
    exact I.unch.trans hu (fun e he => he) I.ext hfrI
  cases hwr : x.wr with
  | false =>
    refine ⟨E, fun b => if x.p.n ≤ b ∧ b < x.q.n then x.q.heap.get b else h b, hput.1, hput.2, hold, hval, Env.le_trans I.ext hpost.ext, hnew, hfr, ?_, hunch, hclosed, fun j y hy hyw => ?_, I.top, fun b y hyl hb hT => ?_, fun j b y hyl hj hEj hjl h3 h4 => ?_⟩
    · rw [hTLe]
      refine good_frame I.good hpre hpost m p3 (fun b i hi => dv_TL hC hY X hw0 hp I hx hrdy hi) hlive hnewno hcov (fun b h1 h2 => if_pos ⟨h1, h2⟩) (fun b y hT hn hy hl => ?_) (fun b y' ht hy hl => ?_)
      · obtain ⟨i, hi⟩ := hT
        by_cases hm : x.p.n ≤ b ∧ b < x.q.n
        · exact absurd hi (hnewno b i hm.1 hm.2)
        · simpa [hm] using hy
      · obtain ⟨i, hi⟩ := ht
        have hbn : b < x.p.n := by rw [p2]; exact hi.1
        obtain ⟨y0, z, g1, g2, g3, g4⟩ := dv_agree hC hY X hw0 hp I hx hL hrdy hi
        have hyz : y' = z := by
          have hm : ¬ (x.p.n ≤ b ∧ b < x.q.n) := by omega
          have hy2 : h b = some y' := by simpa [hm] using hy
          rw [g2] at hy2
          exact (Option.some.inj hy2).symm
        subst hyz
        have hkp := m.keep hpre.wf b y0 (by rw [p1]; exact g1) (quiet_of (b := b) (i := 0) hwr).1
        obtain ⟨y1, hy1, hag1⟩ := Keep.ag (Tb := fun _ => True) hkp (fun i _ => (quiet_of hwr).2)
        have := hag1.eq
        subst this
        refine ⟨y1, hy1, g3, ?_⟩
        have g5 := g4.symm
        cases y1 with
        | cells t cs' =>
          obtain ⟨cs, rfl, k2, k3⟩ := g5
          exact ⟨cs, rfl, k2, k3, .inr ⟨cs, g2, fun _ _ => rfl⟩⟩
        | _ => exact g5
    · rw [hLk]
      constructor
      · rintro (rfl | h1)
        · rw [hx] at hy; cases hy; rw [hwr] at hyw; cases hyw
        · exact (I.wrs j y hy hyw).1 h1
      · exact fun h1 => .inr ((I.wrs j y hy hyw).2 h1)
    · show (if x.p.n ≤ b ∧ b < x.q.n then x.q.heap.get b else h b) = some y ↔ _
      by_cases hm : x.p.n ≤ b ∧ b < x.q.n
      · rw [if_pos hm, ← p4]
        have hkE : k < E := by
          rcases Nat.lt_or_ge k E with h5 | h5
          · exact h5
          · have := tx_n hC hY X hw0 k E h5 (by omega); omega
        have hq : ∀ l y', k + 1 ≤ l → l < E → ss[l]? = some y' → LE.all b ∉ y'.q.log ∧ ∀ i, True → ∀ e ∈ y'.q.log, ¬ e.wrote b i := by
          intro l y' g1 g2 hy'
          cases hwl : y'.wr with
          | false => exact ⟨(quiet_of (i := 0) hwl).1, fun i _ => (quiet_of hwl).2⟩
          | true =>
            have hLl := (I.wrs l y' hy' hwl).2 g2
            have hbit : (W ops l).testBit k = false := by
              cases hh : (W ops l).testBit k with
              | true => rw [I.closed l k hLl hh] at hL; cases hL
              | false => rfl
            have hno := (clash_inv (X.clash k l x y' (by omega) hx hy' hbit)).2.1
            refine ⟨fun he => hno _ he ⟨hm.1, hm.2⟩, fun i _ e he hw => ?_⟩
            cases e with
            | rd => exact hw.elim
            | all => exact hw.elim
            | wr c j n => obtain ⟨rfl, _⟩ := hw; exact hno _ he ⟨hm.1, hm.2⟩
        constructor
        · intro hg
          obtain ⟨y2, hy2, hag⟩ := tx_path hC hY X hw0 E (k + 1) (by omega) I.top hq y hg
          rw [hy2, hag.eq]
        · intro hg
          obtain ⟨z, hz, hzl⟩ := tx_live hC hY X hw0 E (k + 1) (by omega) I.top (by omega) y hg hyl
          obtain ⟨y2, hy2, hag⟩ := tx_path hC hY X hw0 E (k + 1) (by omega) I.top hq z hz
          rw [hg] at hy2
          rw [hz, Option.some.inj hy2, hag.eq]
      · rw [if_neg hm]
        obtain ⟨i, hi⟩ := hT
        refine I.h1 b y hyl hb ⟨i, ?_⟩
        rcases (hTL b i).1 hi with h5 | h5
        · exact h5
        · exact absurd h5 hm
    · show (if x.p.n ≤ b ∧ b < x.q.n then x.q.heap.get b else h b) = some y ↔ _
      rcases (hLk j).1 hj with rfl | hj
      · rw [if_pos ⟨by omega, by omega⟩, p4]
      · by_cases hm : x.p.n ≤ b ∧ b < x.q.n
        · have := tx_one hC hY X hw0 (b := b) hk hjl (by omega) (by omega) h3 h4
          subst this
          rw [hL] at hj
          cases hj
        · rw [if_neg hm]
          exact I.h2 j b y hyl hj hEj hjl h3 h4
  | true =>
    have hwrk : ∀ (j : Nat) (y : Stp), ss[j]? = some y → y.wr = true → j ≠ k → (L j = true ↔ j < k) := by
      intro j y hy hyw hjk
      constructor
      · intro hj
        rcases Nat.lt_or_ge j k with h5 | h5
        · exact h5
        · have hbit : (W ops j).testBit k = false := by
            cases hh : (W ops j).testBit k with
            | true => rw [I.closed j k hj hh] at hL; cases hL
            | false => rfl
          exact absurd ⟨hwr, hyw⟩ (clash_inv (X.clash k j x y (by omega) hx hy hbit)).2.2
      · intro hj
        cases hbit : (W ops k).testBit j with
        | true => exact hrdy j hbit
        | false => exact absurd ⟨hyw, hwr⟩ (clash_inv (X.clash j k y x hj hy hx hbit)).2.2
    have hEk : E ≤ k := by
      rcases Nat.lt_or_ge k E with h5 | h5
      · rw [(I.wrs k x hx hwr).2 h5] at hL; cases hL
      · exact h5
    have hq : ∀ b i0, E ≤ i0 → ∀ l y', i0 ≤ l → l < k → ss[l]? = some y' → LE.all b ∉ y'.q.log ∧ ∀ i, True → ∀ e ∈ y'.q.log, ¬ e.wrote b i := by
      intro b i0 hi0 l y' g1 g2 hy'
      cases hwl : y'.wr with
      | false => exact ⟨(quiet_of (i := 0) hwl).1, fun i _ => (quiet_of hwl).2⟩
      | true =>
        have h6 := (hwrk l y' hy' hwl (by omega)).2 g2
        have := (I.wrs l y' hy' hwl).1 h6
        omega
    have hknown : ∀ b y, live y → b < (S k).n → (∃ i, TL ops S T L b i) → (h b = some y ↔ (S k).heap.get b = some y) := by
      intro b y hyl hb hT
      have both : ∀ i0, E ≤ i0 → i0 ≤ k → b < (S i0).n → ((S i0).heap.get b = some y ↔ (S k).heap.get b = some y) := by
        intro i0 h6 h7 h8
        constructor
        · intro hg
          obtain ⟨y2, hy2, hag⟩ := tx_path hC hY X hw0 k i0 h7 (by omega) (hq b i0 h6) y hg
          rw [hy2, hag.eq]
        · intro hg
          obtain ⟨z, hz, hzl⟩ := tx_live hC hY X hw0 k i0 h7 (by omega) h8 y hg hyl
          obtain ⟨y2, hy2, hag⟩ := tx_path hC hY X hw0 k i0 h7 (by omega) (hq b i0 h6) z hz
          rw [hg] at hy2
          rw [hz, Option.some.inj hy2, hag.eq]
      by_cases hbE : b < (S E).n
      · exact (I.h1 b y hyl hbE hT).trans (both E (Nat.le_refl _) hEk hbE)
      · obtain ⟨i, hi⟩ := hT
        rcases hi with hi | ⟨j, g1, g2, g3, g4⟩
        · have := hp.tn b i hi
          have := tx_n hC hY X hw0 E 0 (by omega) I.top
          omega
        · have hEj : E ≤ j := by
            rcases Nat.lt_or_ge j E with h6 | h6
            · have := tx_n hC hY X hw0 E (j + 1) (by omega) I.top; omega
            · exact h6
          have hjk : j + 1 ≤ k := by
            rcases Nat.lt_or_ge j k with h6 | h6
            · exact h6
            · have := tx_n hC hY X hw0 j k h6 (by omega); omega
          exact (I.h2 j b y hyl g2 hEj g1 g3 g4).trans (both (j + 1) (by omega) hjk g4)
    refine ⟨k + 1, fun b => if b < x.q.n then x.q.heap.get b else h b, hput.1, hput.2, hold, hval, Env.le_trans I.ext hpost.ext, hnew, hfr, ?_, hunch, hclosed, fun j y hy hyw => ?_, hk, fun b y hyl hb hT => ?_, fun j b y hyl hj hEj hjl h3 h4 => ?_⟩
    · rw [hTLe]
      refine good_frame I.good hpre hpost m p3 (fun b i hi => dv_TL hC hY X hw0 hp I hx hrdy hi) hlive hnewno hcov (fun b h1 h2 => if_pos h2) (fun b y hT hn hy hl => ?_) (fun b y' ht hy hl => ?_)
      · by_cases hbq : b < x.q.n
        · have hy2 : x.q.heap.get b = some y := by simpa [hbq] using hy
          by_cases hbp : b < x.p.n
          · obtain ⟨z, hz, hzl⟩ := m.lv hpre.wf b y hbp hy2 hl
            have hnall : LE.all b ∉ x.q.log := fun hall => hn 0 ⟨by omega, _, hall, rfl⟩
            obtain ⟨y1, hy1, hag1⟩ := Keep.ag (Tb := fun _ => True) (m.keep hpre.wf b z hz hnall) (fun i _ e he hw => hn i ⟨by omega, e, he, by
              cases e with
              | rd => exact hw.elim
              | all => exact hw.elim
              | wr c j n => exact hw⟩)
            rw [hy2] at hy1
            have := hag1.eq
            rw [← Option.some.inj hy1] at this
            subst this
            rw [p1] at hz
            exact (hknown b y hl (by omega) hT).2 hz
          · obtain ⟨i, hi⟩ := hT
            exact absurd hi (hnewno b i (by omega) hbq)
        · simpa [hbq] using hy
      · obtain ⟨i, hi⟩ := ht
        have hbn : b < x.p.n := by rw [p2]; exact hi.1
        have hbq : b < x.q.n := by have := m.n; omega
        have hy2 : x.q.heap.get b = some y' := by simpa [hbq] using hy
        refine ⟨y', hy2, hl, ?_⟩
        obtain ⟨z, hz, hzl⟩ := m.lv hpre.wf b y' hbn hy2 hl
        have hzh : h b = some z := (hknown b z hzl (by omega) ⟨i, dv_TL hC hY X hw0 hp I hx hrdy hi⟩).2 (by rw [← p1]; exact hz)
        cases y' with
        | cells t cs' =>
          refine ⟨cs', rfl, rfl, fun _ _ => rfl, ?_⟩
          by_cases hall : LE.all b ∈ x.q.log
          · exact .inl (fun i => ⟨by omega, _, hall, rfl⟩)
          · have hkp := m.keep hpre.wf b z hz hall
            cases z with
            | cells t0 cs0 =>
              obtain ⟨cs2, k1, k2, k3⟩ := hkp
              rw [hy2] at k1
              cases k1
              exact .inr ⟨cs0, hzh, fun j hj => k3 j (fun e he hw => hj ⟨by omega, e, he, by
                cases e with
                | rd => exact hw.elim
                | all => exact hw.elim
                | wr c j n => exact hw⟩)⟩
            | map a b => rw [hkp] at hy2; cases hy2
            | miter a b c d => rw [hkp] at hy2; cases hy2
            | siter a b => rw [hkp] at hy2; cases hy2
            | pmap a => rw [hkp] at hy2; cases hy2
            | defd => rw [hkp] at hy2; cases hy2
            | loop a1 a2 a3 a4 a5 a6 a7 a8 => rw [hkp] at hy2; cases hy2
            | dead => exact hzl.elim
        | _ => rfl
    · rw [hLk]
      by_cases hjk : j = k
      · subst hjk; exact ⟨fun _ => Nat.lt_succ_self _, fun _ => .inl rfl⟩
      · have := hwrk j y hy hyw hjk
        constructor
        · rintro (h1 | h1)
          · exact absurd h1 hjk
          · have := this.1 h1; omega
        · exact fun h1 => .inr (this.2 (by omega))
    · show (if b < x.q.n then x.q.heap.get b else h b) = some y ↔ _
      rw [if_pos (by omega), p4]
    · show (if b < x.q.n then x.q.heap.get b else h b) = some y ↔ _
      have := tx_n hC hY X hw0 j (k + 1) hEj (by omega)
      rw [if_neg (by omega)]
      rcases (hLk j).1 hj with h5 | hj'
      · omega
      · exact I.h2 j b y hyl hj' (by omega) hjl h3 h4
end
end Go.Proofs.YtmabpnmnppfgaaaGreatDoor.Rk
namespace Go.Proofs.YtmabpnmnppfgaaaGreatDoor.Rk
open Go
set_option linter.unusedVariables false
section
variable {P : Program} {C : Callee} {Y : Yielder} (hC : CSound P C) (hY : YSound P Y) {ops : List Oper} {ss : List Stp} {A : Nat → AAct} {S : Nat → St} (X : Text P C Y ops ss A S)
include X
theorem A_sz : ∀ k, k ≤ ops.length → (A k).sz = (A 0).sz ∧ (A k).defs = (A 0).defs
  | 0, _ => ⟨rfl, rfl⟩
  | k + 1, hk => by
    have hx : ss[k]? = some (ss[k]'(by rw [X.len]; omega)) := List.getElem?_eq_getElem _
    obtain ⟨_, h2, _⟩ := X.at_ k _ _ hx (List.getElem?_eq_getElem (show k < ops.length by omega))
    obtain ⟨ih1, ih2⟩ := A_sz k (by omega)
    rw [h2]
    unfold AAct.put AAct.putT
    split
    · split <;> exact ⟨ih1, ih2⟩
    · exact ⟨ih1, ih2⟩
theorem put_get_ne (a : AAct) (d : Option Tmp) (v : AV) (t : Nat) (h : d ≠ some t) : (a.put d v).get t = a.get t := by
  have _all := X
  unfold AAct.put AAct.putT
  split
  · rename_i d'
    split
    · unfold AAct.get
      rw [Tr.get_set, if_neg (fun e => h (by rw [e]))]
    · rfl
  · rfl
theorem put_get_eq (a : AAct) (v : AV) (t : Nat) (h : t < a.sz) : (a.put (some t) v).get t = v := by
  have _all := X
  unfold AAct.put AAct.putT
  simp only [if_pos h]
  unfold AAct.get
  rw [Tr.get_set, if_pos rfl]
  rfl
theorem A_old {t : Nat} : ∀ k, k ≤ ops.length → (∀ (j : Nat) (o : Oper), j < k → ops[j]? = some o → o.dst ≠ some t) → (A k).get t = (A 0).get t
  | 0, _, _ => rfl
  | k + 1, hk, h => by
    have hx : ss[k]? = some (ss[k]'(by rw [X.len]; omega)) := List.getElem?_eq_getElem _
    have ho : ops[k]? = some (ops[k]'(by omega)) := List.getElem?_eq_getElem _
    obtain ⟨_, h2, _⟩ := X.at_ k _ _ hx ho
    rw [h2, put_get_ne X _ _ _ _ (h k _ (by omega) ho)]
    exact A_old k (by omega) (fun j o hj => h j o (by omega))
theorem A_val {t j : Nat} {x : Stp} {o : Oper} (hx : ss[j]? = some x) (ho : ops[j]? = some o) (ht : o.dst = some t) (hsz : t < (A 0).sz) (hone : ∀ (i : Nat) (q : Oper), ops[i]? = some q → q.dst = some t → i = j) : ∀ k, j < k → k ≤ ops.length → (A k).get t = x.v
  | 0, hj, _ => by omega
  | k + 1, hj, hk => by
    have hy : ss[k]? = some (ss[k]'(by rw [X.len]; omega)) := List.getElem?_eq_getElem _
    have hq : ops[k]? = some (ops[k]'(by omega)) := List.getElem?_eq_getElem _
    obtain ⟨_, h2, _⟩ := X.at_ k _ _ hy hq
    by_cases hjk : j = k
    · subst hjk
      rw [hx] at hy
      rw [ho] at hq
      rw [h2, ← Option.some.inj hy, ← Option.some.inj hq, ht, put_get_eq X _ _ _ (by rw [(A_sz X j (by omega)).1]; exact hsz)]
    · rw [h2, put_get_ne X _ _ _ _ (fun e => hjk (hone k _ hq e).symm)]
      exact A_val hx ho ht hsz hone k (by omega) (by omega)
end
structure Wf (ops : List Oper) (sz : Nat) : Prop where
  lt : ∀ (k : Nat) (o : Oper), ops[k]? = some o → ∀ j, (W ops k).testBit j = true → j < k
  looks : ∀ (k j : Nat) (o q : Oper) t, ops[k]? = some o → ops[j]? = some q → t ∈ opTmps ops o → q.dst = some t → (W ops k).testBit j = true ∨ (W ops j).testBit k = true
  dst : ∀ (k : Nat) (o : Oper) d, ops[k]? = some o → o.dst = some d → d < sz ∧ ∀ (j : Nat) (q : Oper), ops[j]? = some q → q.dst = some d → j = k
theorem zip_mem {α : Type} {l : List α} {k : Nat} {x : α} (h : l[k]? = some x) : (x, k) ∈ l.zipIdx := List.mem_of_getElem? (i := k) (by rw [List.getElem?_zipIdx, h]; simp)
theorem wf_of {ops : List Oper} {sz : Nat} (h : wfOps ops sz (waitsA ops) = true) : Wf ops sz := by
  unfold wfOps at h
  have key : ∀ (k : Nat) (o : Oper), ops[k]? = some o → _ := fun k o ho => List.all_eq_true.1 h (o, k) (zip_mem ho)
  simp only [Bool.and_eq_true, decide_eq_true_eq] at key
  refine ⟨fun k o ho j hj => ?_, fun k j o q t ho hq ht hd => ?_, fun k o d ho hd => ?_⟩
  · have h1 := (key k o ho).1.1
    rcases Nat.lt_or_ge j k with h2 | h2
    · exact h2
    · have h3 : (waitsA ops).getD k 0 < 2 ^ j := Nat.lt_of_lt_of_le h1 (Nat.pow_le_pow_right (by omega) h2)
      have := Nat.testBit_lt_two_pow h3
      unfold W at hj
      rw [hj] at this
      cases this
  · have h1 := List.all_eq_true.1 ((key k o ho).1.2) t ht
    have h2 := List.all_eq_true.1 h1 (q, j) (zip_mem hq)
    simp only [Bool.or_eq_true, bne_iff_ne, ne_eq] at h2
    rcases h2 with (h2 | h2) | h2
    · exact absurd hd h2
    · exact .inl h2
    · exact .inr h2
  · have h1 := (key k o ho).2
    rw [hd] at h1
    simp only [Bool.and_eq_true, decide_eq_true_eq] at h1
    refine ⟨h1.1, fun j q hq hqd => ?_⟩
    have h2 := List.all_eq_true.1 h1.2 (q, j) (zip_mem hq)
    simp only [Bool.or_eq_true, beq_iff_eq, bne_iff_ne, ne_eq] at h2
    rcases h2 with h2 | h2
    · exact h2
    · exact absurd hqd h2
section
variable {P : Program} {C : Callee} {Y : Yielder} (hC : CSound P C) (hY : YSound P Y) {ops : List Oper} {opsA : Array Oper} (hop : opsA.toList = ops) {ss : List Stp} {A : Nat → AAct} {S : Nat → St} (X : Text P C Y ops ss A S) (hw0 : WfS (S 0))
  {ρ0 : Env} {T : Nat → Nat → Prop} {w0 : World} {a0 : Act} (hp : Pre ρ0 T (S 0) (S ops.length) w0) (hwf : Wf ops (A 0).sz) (ha : ActR ρ0 (A 0) a0)
include hC hY hop X hw0 hp hwf ha
theorem size_eq : opsA.size = ops.length := by
  have _all := (⟨hC, hY, X, hw0, hp, hwf, ha⟩ : _ ∧ _ ∧ _ ∧ _ ∧ _ ∧ _ ∧ _)
  rw [← hop, Array.length_toList]
theorem at_eq (k : Nat) : opsA[k]? = ops[k]? := by
  have _all := (⟨hC, hY, X, hw0, hp, hwf, ha⟩ : _ ∧ _ ∧ _ ∧ _ ∧ _ ∧ _ ∧ _)
  rw [← hop, Array.getElem?_toList]
theorem dv_init : DInv ops ss S (A 0).sz ρ0 T w0 a0 (fun _ => false) 0 (S 0).heap.get ρ0 a0 w0 := by
  have _all := (⟨hC, hY, hop, X, hw0, hwf⟩ : _ ∧ _ ∧ _ ∧ _ ∧ _ ∧ _)
  have hTL : TL ops S T (fun _ => false) = T := by
    funext b i
    exact propext ⟨fun h => h.elim id (fun ⟨j, _, h, _⟩ => by cases h), .inl⟩
  refine ⟨ha.size, rfl, fun _ _ => rfl, fun j x o t _ h => (by cases h), Env.le_refl _, fun b r h => .inl h, fun (b : Nat) (r : RB) h1 h2 _ => (nomatch (h1.symm.trans h2)), (by rw [hTL]; exact hp.good), Unch.refl _ _ _ _ rfl rfl rfl rfl, fun k j h => (by cases h), fun j x _ _ => ⟨fun h => (by cases h), fun h => (by omega)⟩, Nat.zero_le _, fun b y _ _ _ => Iff.rfl, fun j b y _ h => (by cases h)⟩
theorem dv_end {L : Nat → Bool} {E : Nat} {h : Nat → Option ABlk} {ρ : Env} {a : Act} {w : World} (I : DInv ops ss S (A 0).sz ρ0 T w0 a0 L E h ρ a w) (hall : ∀ j, j < ops.length → L j = true) : Post ρ0 T (S 0) w0 ρ (S ops.length) w ∧ ActR ρ (A ops.length) a := by
  have _all := hop
  have hTL : ∀ b i, TL ops S T L b i ↔ Tn T (S 0).n (S ops.length).n b i := by
    intro b i
    constructor
    · rintro (h1 | ⟨j, h1, h2, h3, h4⟩)
      · exact .inl h1
      · have := tx_n hC hY X hw0 j 0 (by omega) (by omega)
        have := tx_n hC hY X hw0 ops.length (j + 1) (by omega) (Nat.le_refl _)
        exact .inr ⟨by omega, by omega⟩
    · rintro (h1 | h1)
      · exact .inl h1
      · obtain ⟨j, g1, g2, g3, g4⟩ := tx_made hC hY X hw0 (b := b) ops.length 0 (by omega) (Nat.le_refl _) h1.1 h1.2
        exact .inr ⟨j, g2, hall j g2, g3, g4⟩
  have hTLe : TL ops S T L = Tn T (S 0).n (S ops.length).n := by funext b i; exact propext (hTL b i)
  have hq : ∀ b i0, E ≤ i0 → ∀ l y', i0 ≤ l → l < ops.length → ss[l]? = some y' → LE.all b ∉ y'.q.log ∧ ∀ i, True → ∀ e ∈ y'.q.log, ¬ e.wrote b i := by
    intro b i0 hi0 l y' g1 g2 hy'
    cases hwl : y'.wr with
    | false => exact ⟨(quiet_of (i := 0) hwl).1, fun i _ => (quiet_of hwl).2⟩
    | true => have := (I.wrs l y' hy' hwl).1 (hall l g2); omega
  have both : ∀ b y i0, live y → E ≤ i0 → i0 ≤ ops.length → b < (S i0).n → ((S i0).heap.get b = some y ↔ (S ops.length).heap.get b = some y) := by
    intro b y i0 hyl h6 h7 h8
    constructor
    · intro hg
      obtain ⟨y2, hy2, hag⟩ := tx_path hC hY X hw0 ops.length i0 h7 (Nat.le_refl _) (hq b i0 h6) y hg
      rw [hy2, hag.eq]
    · intro hg
      obtain ⟨z, hz, hzl⟩ := tx_live hC hY X hw0 ops.length i0 h7 (Nat.le_refl _) h8 y hg hyl
      obtain ⟨y2, hy2, hag⟩ := tx_path hC hY X hw0 ops.length i0 h7 (Nat.le_refl _) (hq b i0 h6) z hz
      rw [hg] at hy2
      rw [hz, Option.some.inj hy2, hag.eq]
  have hknown : ∀ b y, live y → (∃ i, TL ops S T L b i) → (S ops.length).heap.get b = some y → h b = some y := by
    intro b y hyl hT hg
    by_cases hbE : b < (S E).n
    · exact (I.h1 b y hyl hbE hT).2 ((both b y E hyl (Nat.le_refl _) I.top hbE).2 hg)
    · obtain ⟨i, hi⟩ := hT
      rcases hi with hi | ⟨j, g1, g2, g3, g4⟩
      · have := hp.tn b i hi
        have := tx_n hC hY X hw0 E 0 (by omega) I.top
        omega
      · have hEj : E ≤ j := by
          rcases Nat.lt_or_ge j E with h6 | h6
          · have := tx_n hC hY X hw0 E (j + 1) (by omega) I.top; omega
          · exact h6
        exact (I.h2 j b y hyl g2 hEj g1 g3 g4).2 ((both b y (j + 1) hyl (by omega) (by omega) g4).2 hg)
  refine ⟨⟨I.ext, fun b r hr => ?_, I.fr, ?_, I.unch⟩, ⟨by rw [I.size, (A_sz X _ (Nat.le_refl _)).1], fun t => ?_, by rw [I.defs, (A_sz X _ (Nat.le_refl _)).2]; exact ha.defs.mono I.ext⟩⟩
  · rcases I.new b r hr with h1 | ⟨j, h1, h2, h3, h4⟩
    · exact .inl h1
    · have := tx_n hC hY X hw0 j 0 (by omega) (by omega)
      have := tx_n hC hY X hw0 ops.length (j + 1) (by omega) (Nat.le_refl _)
      exact .inr ⟨by omega, by omega⟩
  · rw [← hTLe]
    refine ⟨fun b y hy hT => ?_, fun b b' r r' y y' hy hy' hl hl' hT hT' hr hr' e => I.good.inj b b' r r' y y' (hknown b y hl hT hy) (hknown b' y' hl' hT' hy') hl hl' hT hT' hr hr' e, I.good.old⟩
    by_cases hl : live y
    · exact I.good.sat b y (hknown b y hl hT hy) hT
    · cases y <;> first | exact trivial | exact absurd trivial hl
  · by_cases hex : ∃ (j : Nat) (o : Oper), ops[j]? = some o ∧ o.dst = some t
    · obtain ⟨j, o, ho, hd⟩ := hex
      have hj := (List.getElem?_eq_some_iff.1 ho).1
      have hx : ss[j]? = some (ss[j]'(by rw [X.len]; exact hj)) := List.getElem?_eq_getElem _
      obtain ⟨g1, g2⟩ := hwf.dst j o t ho hd
      rw [A_val X hx ho hd g1 g2 ops.length hj (Nat.le_refl _)]
      exact I.val j _ o t hx (hall j hj) ho hd
    · have hno : ∀ (j : Nat) (o : Oper), ops[j]? = some o → o.dst ≠ some t := fun j o ho hd => hex ⟨j, o, ho, hd⟩
      rw [A_old X ops.length (Nat.le_refl _) (fun j o _ ho => hno j o ho), I.old t (fun j o ho _ => hno j o ho)]
      exact (ha.get t).mono I.ext
theorem dv_looks {L : Nat → Bool} {E : Nat} {h : Nat → Option ABlk} {ρ : Env} {a : Act} {w : World} (I : DInv ops ss S (A 0).sz ρ0 T w0 a0 L E h ρ a w) {k : Nat} {o : Oper} (ho : ops[k]? = some o) (hL : L k = false) (hrdy : ∀ j, (W ops k).testBit j = true → L j = true) {t : Nat} (ht : t ∈ opTmps ops o) : VR ρ ((A k).get t) (a.tmps.getD t undef) := by
  have _all := (⟨hC, hY, hop, hw0, hp⟩ : _ ∧ _ ∧ _ ∧ _ ∧ _)
  have hk := (List.getElem?_eq_some_iff.1 ho).1
  by_cases hex : ∃ (j : Nat) (q : Oper), ops[j]? = some q ∧ q.dst = some t
  · obtain ⟨j, q, hq, hd⟩ := hex
    have hj := (List.getElem?_eq_some_iff.1 hq).1
    obtain ⟨g1, g2⟩ := hwf.dst j q t hq hd
    rcases hwf.looks k j o q t ho hq ht hd with hbit | hbit
    · have hjk := hwf.lt k o ho j hbit
      have hx : ss[j]? = some (ss[j]'(by rw [X.len]; exact hj)) := List.getElem?_eq_getElem _
      rw [A_val X hx hq hd g1 g2 k hjk (by omega)]
      exact I.val j _ q t hx (hrdy j hbit) hq hd
    · have hkj := hwf.lt j q hq k hbit
      rw [A_old X k (by omega) (fun i q' hi hq' hd' => by have := g2 i q' hq' hd'; omega), I.old t (fun i q' hq' hi hd' => by
        have := g2 i q' hq' hd'
        subst this
        rw [I.closed i k hi hbit] at hL
        cases hL)]
      exact (ha.get t).mono I.ext
  · have hno : ∀ (j : Nat) (o : Oper), ops[j]? = some o → o.dst ≠ some t := fun j o ho hd => hex ⟨j, o, ho, hd⟩
    rw [A_old X k (by omega) (fun j o _ ho => hno j o ho), I.old t (fun j o ho _ => hno j o ho)]
    exact (ha.get t).mono I.ext
theorem waits_ready {k : Nat} {o : Oper} (ho : ops[k]? = some o) {L : Nat → Bool} (hcl : ∀ k j, L k = true → (W ops k).testBit j = true → L j = true) (hall : ∀ e ∈ o.after, Region.binds .any e = true → L e.on = true) : ∀ j, (W ops k).testBit j = true → L j = true := by
  have _all := (⟨hC, hY, hop, X, hw0, hp, hwf, ha⟩ : _ ∧ _ ∧ _ ∧ _ ∧ _ ∧ _ ∧ _ ∧ _)
  intro j hj
  obtain ⟨e, he, hb, h1⟩ := (W_spec ho).1 hj
  rcases h1 with h1 | h1
  · rw [← h1]; exact hall e he hb
  · refine hcl e.on j (hall e he hb) ?_
    unfold W
    rw [List.getD_eq_getElem?_getD] at h1 ⊢
    by_cases hlt : e.on < k
    · rwa [List.getElem?_take_of_lt hlt] at h1
    · rw [List.getElem?_eq_none (by simp; omega)] at h1
      simp at h1
theorem dv_any {r : Option Nat} {n : Nat} {Q : Exit → Act → World → Prop} (hQ : ∀ ρ a w, Post ρ0 T (S 0) w0 ρ (S ops.length) w → ActR ρ (A ops.length) a → Q .normal a w) :
    ∀ (u : Nat) (listed : Array Bool) (E : Nat) (h : Nat → Option ABlk) (ρ : Env) (a : Act) (w : World), listed.size = ops.length → (List.range ops.length).countP (fun j => !listed.getD j true) = u → DInv ops ss S (A 0).sz ρ0 T w0 a0 (fun j => listed.getD j false) E h ρ a w → wpAnyIn (FW r) n P .any opsA Q u listed a w
  | 0, listed, E, h, ρ, a, w, hsz, hu, I => by
    have hall : ∀ j, j < ops.length → listed.getD j true = true := fun j hj => by
      have := List.countP_eq_zero.1 hu j (List.mem_range.2 hj)
      simpa using this
    have hall2 : ∀ j, j < ops.length → listed.getD j false = true := fun j hj => by
      have h1 := hall j hj
      have h2 : j < listed.size := by omega
      simpa [h2] using h1
    obtain ⟨g1, g2⟩ := dv_end hC hY hop X hw0 hp hwf ha I hall2
    refine ⟨?_, hQ ρ a w g1 g2⟩
    cases hr : Region.ready .any opsA listed with
    | nil => rfl
    | cons i rest =>
      obtain ⟨hun, o, ho, _⟩ := mem_ready.1 (show i ∈ Region.ready .any opsA listed by rw [hr]; exact List.mem_cons_self ..)
      have hi : i < ops.length := by
        have := (Array.getElem?_eq_some_iff.1 ho).1
        rw [size_eq hC hY hop X hw0 hp hwf ha] at this
        exact this
      rw [hall i hi] at hun
      cases hun
  | u + 1, listed, E, h, ρ, a, w, hsz, hu, I => by
    have hex : ∃ j, j < ops.length ∧ listed.getD j true = false := by
      have : 0 < (List.range ops.length).countP fun j => !listed.getD j true := by omega
      obtain ⟨j, hj, hp⟩ := List.countP_pos_iff.1 this
      exact ⟨j, List.mem_range.1 hj, by simpa using hp⟩
    have hready : ∀ j, j < ops.length → listed.getD j true = false → ∃ i, i ∈ Region.ready .any opsA listed := by
      intro j
      induction j using Nat.strongRecOn with
      | _ j ih =>
        intro hj hun
        have ho : ops[j]? = some ops[j] := List.getElem?_eq_getElem hj
        by_cases hall : ∀ e ∈ ops[j].after, Region.binds .any e = true → listed.getD e.on false = true
        · exact ⟨j, mem_ready.2 ⟨hun, ops[j], by rw [at_eq hC hY hop X hw0 hp hwf ha]; exact ho, hall⟩⟩
        · simp only [Classical.not_forall] at hall
          obtain ⟨e, he, hb, hno⟩ := hall
          have hbit : (W ops j).testBit e.on = true := (W_spec ho).2 ⟨e, he, hb, .inl rfl⟩
          have hlt := hwf.lt j _ ho _ hbit
          refine ih e.on hlt (by omega) ?_
          have hs : e.on < listed.size := by omega
          simpa [hs] using hno
    refine ⟨fun h0 => ?_, fun i hi => ?_⟩
    · obtain ⟨j, hj, hun⟩ := hex
      obtain ⟨i, hi⟩ := hready j hj hun
      rw [h0] at hi
      cases hi
    · obtain ⟨hun, o, ho, hall⟩ := mem_ready.1 hi
      rw [at_eq hC hY hop X hw0 hp hwf ha] at ho
      have hil := (List.getElem?_eq_some_iff.1 ho).1
      have hx : ss[i]? = some (ss[i]'(by rw [X.len]; exact hil)) := List.getElem?_eq_getElem _
      generalize (ss[i]'(by rw [X.len]; exact hil)) = x at hx
      have hLf : (fun j => listed.getD j false) i = false := by
        show listed.getD i false = false
        have h2 : i < listed.size := by omega
        simpa [h2] using hun
      have hrdy := waits_ready hC hY hop X hw0 hp hwf ha ho (L := fun j => listed.getD j false) I.closed hall
      have hpre := dv_pre hC hY X hw0 hp I hx hLf hrdy
      obtain ⟨q1, q2, q3, q4⟩ := X.at_ i x o hx ho
      have follow : ∀ ρ' w' v', Post ρ (TK S i x) x.p w ρ' x.q w' → VR ρ' x.v v' → wpAnyIn (FW r) n P .any opsA Q u (listed.setIfInBounds i true) (a.put o.dst v') w' := by
        intro ρ' w' v' hpost hv
        obtain ⟨E', h', I'⟩ := dv_step hC hY X hw0 hp I hx ho hLf hrdy (fun d hd => hwf.dst i o d ho hd) hpost hv
        have hL : updL (fun j => listed.getD j false) i = fun j => (listed.setIfInBounds i true).getD j false := by
          funext j
          unfold updL
          by_cases hji : j = i
          · subst hji
            have h2 : j < listed.size := by omega
            simp [h2]
          · rw [if_neg hji]
            simp [Array.getD_eq_getD_getElem?, Ne.symm hji]
        rw [hL] at I'
        refine dv_any hQ u _ E' h' ρ' _ w' (by simpa using hsz) ?_ I'
        have hcnt : ∀ m, i < m → (List.range m).countP (fun j => !(listed.setIfInBounds i true).getD j true) + 1 = (List.range m).countP (fun j => !listed.getD j true) := by
          intro m
          induction m with
          | zero => intro h; omega
          | succ m ih =>
            intro him
            rw [List.range_succ, List.countP_append, List.countP_append, List.countP_singleton, List.countP_singleton]
            by_cases hm : m = i
            · subst hm
              have hsame : (List.range m).countP (fun j => !(listed.setIfInBounds m true).getD j true) = (List.range m).countP (fun j => !listed.getD j true) := by
                refine List.countP_congr (fun j hj => ?_)
                have : j ≠ m := by have := List.mem_range.1 hj; omega
                simp [Array.getD_eq_getD_getElem?, Ne.symm this]
              have h2 : m < listed.size := by omega
              rw [hsame, hun]
              simp [h2]
            · have := ih (by omega)
              have e : (listed.setIfInBounds i true).getD m true = listed.getD m true := by
                simp [Array.getD_eq_getD_getElem?, Ne.symm hm]
              rw [e]
              omega
        have := hcnt ops.length hil
        omega
      unfold wpOpIn
      rw [at_eq hC hY hop X hw0 hp hwf ha, ho]
      have hguard : ∀ b, wantedA ops o (A i) = some b → Region.wanted o (yielded opsA a.tmps) = b := fun b hb => wanted_ok hb hop (fun j c d hg hd => dv_looks hC hY hop X hw0 hp hwf ha I ho hLf hrdy (by
        unfold opTmps
        rw [hg]
        refine List.mem_append_right _ ?_
        show d ∈ (ops[j]?.bind (fun x => x.dst)).toList
        rw [hd]
        exact List.mem_singleton.2 rfl))
      rcases q4 with ⟨q5, q6⟩ | ⟨q5, q6, q7⟩
      · simp only [hguard true q5, if_true]
        refine oneVal_ok hC hY q6 hpre (fun y hy => ?_) (fun ρ' w' hpost v' hv => follow ρ' w' v' hpost hv)
        cases y with
        | tmp t =>
          refine dv_looks hC hY hop X hw0 hp hwf ha I ho hLf hrdy ?_
          unfold opTmps
          refine List.mem_append_left _ (List.mem_filterMap.2 ⟨.tmp t, Array.mem_toList_iff.2 hy, rfl⟩)
        | const v => exact ofV_ok 3 v
        | global g => exact .top _
        | func f => exact .func f [] [] #[] #[] .nil .nil
      · simp only [hguard false q5, Bool.false_eq_true, if_false]
        refine ⟨fun _ _ => trivial, ?_⟩
        refine follow ρ w undef ?_ (by rw [q6]; exact undef_ok)
        rw [q7] at hpre ⊢
        exact Post.refl hpre
end
section
variable {P : Program} {C : Callee} {Y : Yielder} {ρ : Env} {T : Nat → Nat → Prop} {s s' : St} {w : World} {aa : AAct} {a : Act}
theorem regOps_mono {R : Bool} {ops : List Oper} {draw : Bool} {x : OR} (hC : CSound P C) (hY : YSound P Y) (hwf : WfS s) (h : regOps P C Y R ops draw aa s = x) (hs : x.st = some s') : Mono s s' := by
  unfold regOps at h
  split at h
  · split at h
    · cases x with
      | no => cases hs
      | pan aa1 v s1 =>
        exfalso
        have : ∀ (l : List Oper) ws rs aa s, drawOps P C Y ops l ws rs aa s ≠ .pan aa1 v s1 := by
          intro l
          induction l with
          | nil => intro ws rs aa s h; unfold drawOps at h; cases h
          | cons o l ih =>
            intro ws rs aa s h
            cases ws with
            | nil => unfold drawOps at h; cases h
            | cons w ws =>
              unfold drawOps at h
              split at h
              · split at h
                · split at h
                  · cases h
                  · exact ih _ _ _ _ h
                · cases h
              · exact ih _ _ _ _ h
              · cases h
        exact this _ _ _ _ _ h
      | ok aa1 s1 =>
        cases hs
        obtain ⟨ss, A, S, X, h1, h2, h3, h4⟩ := draw_Text h
        subst h2 h4
        have key : ∀ k, k ≤ ops.length → Mono (S 0) (S k) := by
          intro k
          induction k with
          | zero => exact fun _ => Mono.refl _
          | succ k ih =>
            intro hk
            have m1 := ih (by omega)
            obtain ⟨x, o, hx, _⟩ := tx_get hC hY X hwf (show k < ops.length by omega)
            have hwk := tx_wf hC hY X hwf k (by omega)
            obtain ⟨m, p1, p2, p3, p4, p5, p6⟩ := tx_step hC hY X hwf hx hwk
            have hwp : WfS x.p := by intro b hb; rw [p1]; exact hwk b (by omega)
            refine m1.trans ⟨by have := m.n; omega, fun e he => by rw [p6]; exact List.mem_append_right _ he, fun _ => tx_wf hC hY X hwf (k + 1) hk, fun _ b y hy hn => ?_, fun _ b y hb hy hl => ?_, fun _ e he => ?_, fun _ hb e he => ?_⟩
            · rw [p4]
              have := m.keep hwp b y (by rw [p1]; exact hy) (fun hm => hn (by rw [p6]; exact List.mem_append_left _ hm))
              exact Keep.mono (fun e he => by rw [p6]; exact List.mem_append_left _ he) this
            · rw [p4] at hy
              obtain ⟨z, hz, hzl⟩ := m.lv hwp b y (by omega) hy hl
              exact ⟨z, by rw [← p1]; exact hz, hzl⟩
            · rw [p6] at he
              rcases List.mem_append.1 he with he | he
              · rcases m.lw hwp e he with h5 | h5 | ⟨z, h5, h6⟩
                · rw [p3] at h5; cases h5
                · exact .inr (.inl (by omega))
                · exact .inr (.inr ⟨z, by rw [← p1]; exact h5, h6⟩)
              · exact .inl he
            · rw [p6] at he
              rcases List.mem_append.1 he with he | he
              · have := m.lb hwp (by rw [p3]; simp) e he
                omega
              · have := hb e he
                have := m.n
                omega
        exact key _ (Nat.le_refl _)
    · subst h; cases hs
  · exact runOps_mono hC hY _ hwf h hs
theorem regOps_ok {R : Bool} {id : Nat} {opsA : Array Oper} {draw : Bool} {x : OR} (hm : P.follows .mixedOrders = true) (hC : CSound P C) (hY : YSound P Y) {r : Option Nat} (hr : R = false → r = none) {n : Nat} {Q : Exit → Act → World → Prop}
    (h : regOps P C Y R opsA.toList draw aa s = x) (hs : x.st = some s') (hp : Pre ρ T s s' w) (ha : ActR ρ aa a) (hk : ORQ Q ρ T s w x) : (Code.region id opsA draw).wpIn (FW r) n P Q a w := by
  unfold regOps at h
  split at h
  · rename_i hd
    subst hd
    split at h
    · rename_i hwfo
      cases x with
      | no => cases hs
      | pan aa1 v s1 =>
        exfalso
        have : ∀ (l : List Oper) ws rs aa s, drawOps P C Y opsA.toList l ws rs aa s ≠ .pan aa1 v s1 := by
          intro l
          induction l with
          | nil => intro ws rs aa s h; unfold drawOps at h; cases h
          | cons o l ih =>
            intro ws rs aa s h
            cases ws with
            | nil => unfold drawOps at h; cases h
            | cons w ws =>
              unfold drawOps at h
              split at h
              · split at h
                · split at h
                  · cases h
                  · exact ih _ _ _ _ h
                · cases h
              · exact ih _ _ _ _ h
              · cases h
        exact this _ _ _ _ _ h
      | ok aa1 s1 =>
        cases hs
        obtain ⟨ss, A, S, X, h1, h2, h3, h4⟩ := draw_Text h
        subst h1 h2 h3 h4
        have hp' : Pre ρ T (S 0) (S opsA.toList.length) { w with drawn := w.drawn + 1 } := ⟨good_same hp.good rfl ⟨rfl, rfl, rfl, rfl⟩, hp.cov, hp.fresh, hp.wf, hp.tn⟩
        refine wpIn_region_any hm ?_
        have := dv_any hC hY rfl X hp.wf hp' (wf_of hwfo) ha (r := r) (n := n) (Q := Q) (fun ρ' a' w' hpost ha' => hk ρ' a' w' ⟨hpost.ext, hpost.new, hpost.fr, hpost.good, ⟨hpost.unch.os, hpost.unch.tape, hpost.unch.output, hpost.unch.size, hpost.unch.block, hpost.unch.cells⟩⟩ ha') opsA.size (Array.replicate opsA.size false) 0 (S 0).heap.get ρ a { w with drawn := w.drawn + 1 } (by simp) ?_ ?_
        · exact this
        · have : ∀ j ∈ List.range opsA.toList.length, (!(Array.replicate opsA.size false).getD j true) = true := fun j hj => by
            have hjl := List.mem_range.1 hj
            rw [Array.length_toList] at hjl
            simp [Array.getD_eq_getD_getElem?, hjl]
          rw [List.countP_eq_length.2 this]
          simp
        · have e : (fun j => (Array.replicate opsA.size false).getD j false) = fun _ => false := by
            funext j
            simp [Array.getD_eq_getD_getElem?, Array.getElem?_replicate]
            split <;> rfl
          rw [e]
          exact dv_init hC hY rfl X hp.wf hp' (wf_of hwfo) ha
    · subst h; cases hs
  · rename_i hd
    have : draw = false := by simpa using hd
    subst this
    exact wpIn_region_list (runOps_ok rfl hC hY hr _ h hs hp ha hk)
end
end Go.Proofs.YtmabpnmnppfgaaaGreatDoor.Rk
namespace Go.Proofs.YtmabpnmnppfgaaaGreatDoor.Rk
open Go
set_option linter.unusedVariables false
def jumpsIn (F : Fence) (n : Nat) (P : Program) (c : Code) (Q : Exit → Act → World → Prop) : Nat → Nat → Act → World → Prop
  | 0, _, _, _ => False
  | m + 1, l, a, w => ∃ rest, findLabel c l = some rest ∧ rest.wpIn F n P (fun e a w => match e with | .goto l => jumpsIn F n P c Q m l a w | e => Q e a w) a w
theorem jumpsIn_mono {F : Fence} {n : Nat} {P : Program} {c : Code} {Q Q' : Exit → Act → World → Prop} (hq : ∀ e a w, Q e a w → Q' e a w) : ∀ m l a w, jumpsIn F n P c Q m l a w → jumpsIn F n P c Q' m l a w
  | 0, _, _, _, h => h
  | m + 1, l, a, w, ⟨rest, h1, h2⟩ => ⟨rest, h1, wpIn_mono h2 (fun e a w h => by
      cases e <;> first | exact jumpsIn_mono hq m _ _ _ h | exact hq _ _ _ h)⟩
theorem stepR_scope {P : Program} {b : Frame} {a : Act} {k : List Item} {cs : List Frame} {w : World} {c : Code} : step P (lone (b.atR a (.code (.scope c) :: k)) cs w) = .next (lone (b.atR a (.code c :: .inScope c :: k)) cs w) :=
  step_lone_go (by simp [stepG, stepG.exec, Frame.atR])
theorem stepR_inScope {P : Program} {b : Frame} {a : Act} {k : List Item} {cs : List Frame} {w : World} {c : Code} : step P (lone (b.atR a (.inScope c :: k)) cs w) = .next (lone (b.atR a k) cs w) :=
  step_lone_go (by simp [stepG, stepG.exec, Frame.atR])
theorem wpIn_scope_jumps {F : Fence} {n : Nat} {P : Program} {c : Code} {Q : Exit → Act → World → Prop} {a : Act} {w : World} (h : c.wpIn F n P (fun e a w => match e with | .goto l => ∃ m, jumpsIn F n P c Q m l a w | e => Q e a w) a w) : (Code.scope c).wpIn F n P Q a w := by
  intro b k cs hro hb hr
  have key : ∀ m l a w, jumpsIn F n P c Q m l a w → ∃ rest, findLabel c l = some rest ∧ ∃ e a' w', Q e a' w' ∧ ArrivesIn (Machine.fenced P F) P (lone (b.atR a (.code rest :: .inScope c :: k)) cs w) b k cs e a' w' := by
    intro m
    induction m with
    | zero => intro l a w h; exact h.elim
    | succ m ih =>
      intro l a w h
      obtain ⟨rest, hf, h⟩ := h
      refine ⟨rest, hf, ?_⟩
      obtain ⟨e, a₁, w₁, hq, harr⟩ := h b (.inScope c :: k) cs hro hb hr
      cases e with
      | normal => exact ⟨.normal, a₁, w₁, hq, StepsIn.trans harr (.one (fenced_calm hb hr rfl) stepR_inScope)⟩
      | exit id =>
        have hx : exitTo id (.inScope c :: k) = exitTo id k := by simp [exitTo]
        exact ⟨.exit id, a₁, w₁, hq, fun k' hk => harr.1 k' (by rw [hx]; exact hk), fun hr' hk => harr.2 hr' (by rw [hx]; exact hk)⟩
      | goto l' =>
        obtain ⟨rest', hf', e₂, a₂, w₂, hq₂, harr₂⟩ := ih l' a₁ w₁ hq
        exact ⟨e₂, a₂, w₂, hq₂, .of_steps (harr.1 (.code rest' :: .inScope c :: k) (by simp [gotoIn, hf'])) harr₂⟩
      | ret => exact ⟨_, a₁, w₁, hq, harr⟩
      | panic ch => exact ⟨_, a₁, w₁, hq, harr⟩
      | outgrown => exact ⟨_, a₁, w₁, hq, harr⟩
  have h0 : (lone (b.atR a (.code (.scope c) :: k)) cs w).fenced P F := fenced_calm hb hr rfl
  obtain ⟨e, a₁, w₁, hq, harr⟩ := h b (.inScope c :: k) cs hro hb hr
  cases e with
  | normal => exact ⟨.normal, a₁, w₁, hq, .head h0 stepR_scope (StepsIn.trans harr (.one (fenced_calm hb hr rfl) stepR_inScope))⟩
  | exit id =>
    have hx : exitTo id (.inScope c :: k) = exitTo id k := by simp [exitTo]
    exact ⟨.exit id, a₁, w₁, hq, fun k' hk => .head h0 stepR_scope (harr.1 k' (by rw [hx]; exact hk)), fun hr' hk => let ⟨k₁, g1, g2⟩ := harr.2 hr' (by rw [hx]; exact hk); ⟨k₁, g1, .head h0 stepR_scope g2⟩⟩
  | goto l' =>
    obtain ⟨m, hm⟩ := hq
    obtain ⟨rest', hf', e₂, a₂, w₂, hq₂, harr₂⟩ := key m l' a₁ w₁ hm
    exact ⟨e₂, a₂, w₂, hq₂, .of_steps (.head h0 stepR_scope (harr.1 (.code rest' :: .inScope c :: k) (by simp [gotoIn, hf']))) harr₂⟩
  | ret => exact ⟨_, a₁, w₁, hq, .of_steps (.one h0 stepR_scope) harr⟩
  | panic ch => exact ⟨_, a₁, w₁, hq, .of_steps (.one h0 stepR_scope) harr⟩
  | outgrown => exact ⟨_, a₁, w₁, hq, .of_steps (.one h0 stepR_scope) harr⟩
def ExR (ρ : Env) : AExit → Exit → Prop
  | .normal, .normal => True
  | .exit i, .exit j => i = j
  | .goto i, .goto j => i = j
  | .ret, .ret => True
  | .panic v, .panic ch => ∃ v', ch = [{ v := v', recovered := false }] ∧ VR ρ v v'
  | _, _ => False
def EvPost (ρ : Env) (T : Nat → Nat → Prop) (s : St) (w : World) (e : AExit) (aa' : AAct) (s' : St) (E : Exit) (a' : Act) (w' : World) : Prop := ∃ ρ', Post ρ T s w ρ' s' w' ∧ ActR ρ' aa' a' ∧ ExR ρ' e E
theorem EvPost.after {ρ ρ1 : Env} {T : Nat → Nat → Prop} {s s1 s2 : St} {w w1 w2 : World} {e : AExit} {aa : AAct} {E : Exit} {a : Act} (m1 : Mono s s1) (m2 : Mono s1 s2) (h : Post ρ T s w ρ1 s1 w1) (k : EvPost ρ1 (Tn T s.n s1.n) s1 w1 e aa s2 E a w2) : EvPost ρ T s w e aa s2 E a w2 :=
  let ⟨ρ', g1, g2, g3⟩ := k; ⟨ρ', Post.trans m1 m2 h g1, g2, g3⟩
abbrev Ev := Code → AAct → St → Option (AExit × AAct × St)
def EvS (P : Program) (E : Ev) (R : Bool) : Prop := ∀ c aa s e aa' s', E c aa s = some (e, aa', s') → WfS s → Mono s s' ∧
  ∀ ρ T w a r n, (R = false → r = none) → Pre ρ T s s' w → ActR ρ aa a → c.wpIn (FW r) n P (EvPost ρ T s w e aa' s') a w
def JuS (P : Program) (J : Code → Nat → AAct → St → Option (AExit × AAct × St)) (R : Bool) (m : Nat) : Prop := ∀ c l aa s e aa' s', J c l aa s = some (e, aa', s') → WfS s → Mono s s' ∧
  ∀ ρ T w a r n, (R = false → r = none) → Pre ρ T s s' w → ActR ρ aa a → jumpsIn (FW r) n P c (EvPost ρ T s w e aa' s') m l a w
def LoS (P : Program) (E : Ev) (R : Bool) (m : Nat) : Prop := ∀ c aa s e aa' s', E (.loop c) aa s = some (e, aa', s') → WfS s → Mono s s' ∧
  ∀ ρ T w a r n, (R = false → r = none) → Pre ρ T s s' w → ActR ρ aa a → Code.roundsIn (FW r) n P c (EvPost ρ T s w e aa' s') m a w
theorem rounds_mono {F : Fence} {n : Nat} {P : Program} {c : Code} {Q Q' : Exit → Act → World → Prop} (hq : ∀ e a w, Q e a w → Q' e a w) : ∀ m a w, Code.roundsIn F n P c Q m a w → Code.roundsIn F n P c Q' m a w
  | 0, _, _, h => h
  | m + 1, a, w, h => wpIn_mono h (fun e a w h => by
      cases e <;> first | exact rounds_mono hq m _ _ h | exact hq _ _ _ h)
section
variable {P : Program} {ρ : Env} {T : Nat → Nat → Prop} {s s' : St} {w w' : World} {aa aa' : AAct} {a : Act} {E : Ev} {R : Bool}
theorem loop_at {b : Nat} {ready : Bool} {p : Option Code} {sz : Nat} {tmps : Tr AV} {ps : List Tmp} {assign body : Code} {d : Nat} (h : Good ρ T s.heap.get w) (hT : ∃ i, T b i) (hb : s.heap.get b = some (.loop ready p sz tmps ps assign body d)) {r : RB} (hr : ρ b = some r) :
    ∃ fn tmps' q, ρ d = some q ∧ w.heap[r.blk]? = some (.loop { state := loopState ready p, pending := p, fn := fn, tmps := tmps', params := ps.toArray, assign := assign, body := body, defers := q.blk }) ∧ tmps'.size = sz ∧ ∀ t, VR ρ ((tmps.get t).getD (.tuple [])) (tmps'.getD t undef) := by
  obtain ⟨r1, fn, tmps', q, h1, h2, h3, h4, h5⟩ := h.sat b _ hb hT
  have : r1 = r := Option.some.inj (h1.symm.trans hr)
  subst this
  exact ⟨fn, tmps', q, h2, h3, h4, h5⟩
theorem alt_put (w : World) {B : Nat} {x : Obj} (o : Obj) (h : w.heap[B]? = some x) : Alt w (w.putObj B o) B o :=
  ⟨rfl, rfl, rfl, World.putObj_size, World.putObj_heap_same (lt_of_some h), fun _ hB => World.putObj_heap_other hB⟩
theorem loop_alt {b : Nat} {ready ready' : Bool} {p p' : Option Code} {sz : Nat} {tmps : Tr AV} {ps : List Tmp} {assign body : Code} {d : Nat} (h : Good ρ T s.heap.get w) (hT : ∃ i, T b i) (hb : s.heap.get b = some (.loop ready p sz tmps ps assign body d)) {r : RB} (hr : ρ b = some r)
    {fn : FuncId} {tmps' : Array Value} {q : RB} (hq : ρ d = some q) (hw : w.heap[r.blk]? = some (.loop { state := loopState ready p, pending := p, fn := fn, tmps := tmps', params := ps.toArray, assign := assign, body := body, defers := q.blk })) (hz : tmps'.size = sz) (ht : ∀ t, VR ρ ((tmps.get t).getD (.tuple [])) (tmps'.getD t undef)) :
    Post ρ T s w ρ ((s.put b (.loop ready' p' sz tmps ps assign body d)).note (.all b)) (w.putObj r.blk (.loop { state := loopState ready' p', pending := p', fn := fn, tmps := tmps', params := ps.toArray, assign := assign, body := body, defers := q.blk })) :=
  Post.alt h hb trivial hT hr (alt_put w _ hw) ⟨r, fn, tmps', q, hr, hq, World.putObj_heap_same (lt_of_some hw), hz, ht⟩
theorem setPs_ok : ∀ (ps : List Tmp) (args : List AV) (vs : List Value) (aa : AAct) (ts : Array Value), VRL ρ args vs → args.length = ps.length → ActR ρ aa { tmps := ts, defers := [] } →
    ActR ρ (setPs ps args aa) { tmps := (ps.zip vs).foldl (fun tmps (t, a) => tmps.setIfInBounds t a) ts, defers := [] }
  | [], [], _, aa, ts, .nil, _, h => h
  | p :: ps, x :: args, _, aa, ts, .cons _ v _ vs hx hl, hn, h => by
    have := setPs_ok ps args vs (aa.putT p x) (ts.setIfInBounds p v) hl (by simpa using hn) (h.putT p hx)
    exact this
  | [], x :: args, _, aa, ts, _, hn, h => by simp at hn
  | p :: ps, [], _, aa, ts, _, hn, h => by simp at hn
end
end Go.Proofs.YtmabpnmnppfgaaaGreatDoor.Rk
namespace Go.Proofs.YtmabpnmnppfgaaaGreatDoor.Rk
open Go
set_option linter.unusedVariables false
section
variable {P : Program} {E : Ev}
theorem round_end {ρ : Env} {T : Nat → Nat → Prop} {s2 : St} {w : World} {b : Nat} {ready : Bool} {p : Option Code} {sz : Nat} {tmps : Tr AV} {ps : List Tmp} {assign body : Code} {d : Nat} (hg : Good ρ T s2.heap.get w) (hT : ∃ i, T b i) (hb : s2.heap.get b = some (.loop ready p sz tmps ps assign body d)) {r : RB} (hr : ρ b = some r)
    (k : Bool) (j : Option Code) (hk : k = j.isNone) : ∃ v w', (Instr.endRound r.blk j).run P w = .ok v w' ∧ v = .bool k ∧ Post ρ T s2 w ρ ((s2.put b (.loop k j sz tmps ps assign body d)).note (.all b)) w' := by
  obtain ⟨fn, tmps', q, h1, h2, h3, h4⟩ := loop_at hg hT hb hr
  refine ⟨_, _, run_endRound j h2, by rw [hk], ?_⟩
  have := loop_alt (ready' := k) (p' := j) hg hT hb hr h1 h2 h3 h4
  have e : loopState k j = if j.isNone then LoopState.ready else .done := by
    subst hk
    unfold loopState
    cases j <;> rfl
  rw [e] at this
  exact this
theorem ysound (hE : EvS P E true) : YSound P (roundY E) := by
  intro b args s res s' h hwf
  unfold roundY at h
  split at h
  · rename_i sz tmps ps assign body d hb
    split at h
    · rename_i hlen
      split at h
      · rename_i aa1 s1 hev1
        split at h
        · rename_i sz1 tmps1 ps1 assign1 body1 d1 hb1
          split at h
          · rename_i e2 aa2 s2 hev2
            split at h
            · rename_i rd p2 sz2 tmps2 ps2 assign2 body2 d2 rr j hb2 hre
              cases h
              obtain ⟨m1, k1⟩ := hE _ _ _ _ _ _ hev1 hwf
              have hwf1 := m1.wf hwf
              have m1' : Mono s1 ((s1.put b (.loop false none sz1 tmps1 ps1 assign1 body1 d1)).note (.all b)) := Mono.put_note _ _ _ ⟨_, hb1, trivial⟩
              obtain ⟨m2, k2⟩ := hE _ _ _ _ _ _ hev2 (m1'.wf hwf1)
              have m2' : Mono s2 ((s2.put b (.loop rr j sz2 tmps2 ps2 assign2 body2 d2)).note (.all b)) := Mono.put_note _ _ _ ⟨_, hb2, trivial⟩
              have m12 := m1'.trans (m2.trans m2')
              refine ⟨m1.trans m12, fun ρ T w vs hp hargs r hr => ?_⟩
              have hbn := lt_wf hwf hb
              have hTb : ∃ i, T b i := ⟨0, hp.cov (.all b) (List.mem_cons_self ..) hbn b 0 rfl⟩
              obtain ⟨fn, tmps', q, g1, g2, g3, g4⟩ := loop_at hp.good hTb hb hr
              have hsz : vs.size = ps.toArray.size := by rw [hargs.size, hlen]; simp
              refine ⟨_, _, _, _, run_yield g2 hsz, fun rr' n => ?_⟩
              refine roundIn_of_wpIn (F := FW rr') trivial ?_
              show assign.wpIn (FW (some r.blk)) n P _ _ w
              have ha0 : ActR ρ (setPs ps args ⟨sz, tmps, []⟩) { tmps := (ps.toArray.zip vs).foldl (fun tmps (t, a) => tmps.setIfInBounds t a) tmps', defers := [] } := by
                have := setPs_ok (ρ := ρ) ps args vs.toList ⟨sz, tmps, []⟩ tmps' hargs hlen ⟨g3, fun t => g4 t, .nil⟩
                rw [← Array.foldl_toList, Array.toList_zip]
                exact this
              refine wpIn_mono (k1 ρ T w _ (some r.blk) n (fun h => by cases h) (hp.first m12) ha0) ?_
              rintro E1 a1 w1 ⟨ρ1, hpost1, hact1, hex1⟩
              have hp1 := hp.next m1 m12 hpost1
              cases E1 <;> try exact hex1.elim
              have hr1 : ρ1 b = some r := hpost1.ext _ _ hr
              have hT1 : ∃ i, Tn T s.n s1.n b i := let ⟨i, hi⟩ := hTb; ⟨i, .inl hi⟩
              obtain ⟨fn1, tm1, q1, f1, f2, f3, f4⟩ := loop_at hp1.good hT1 hb1 hr1
              refine ⟨_, run_beginRound f2 rfl, ?_⟩
              have hpost1' : Post ρ1 (Tn T s.n s1.n) s1 w1 ρ1 ((s1.put b (.loop false none sz1 tmps1 ps1 assign1 body1 d1)).note (.all b)) (w1.putObj r.blk (.loop { state := .busy, pending := none, fn := fn1, tmps := tm1, params := ps1.toArray, assign := assign1, body := body1, defers := q1.blk })) :=
                loop_alt (ready' := false) (p' := none) hp1.good hT1 hb1 hr1 f1 f2 f3 f4
              have hp1' := hp1.next m1' (m2.trans m2') hpost1'
              have hact1' : ActR ρ1 aa1 a1 := hact1
              show body.wpIn (FW (some r.blk)) n P _ a1 _
              refine wpIn_mono (k2 ρ1 _ _ _ (some r.blk) n (fun h => by cases h) (hp1'.first m2') hact1') ?_
              rintro E2 a2 w2 ⟨ρ2, hpost2, hact2, hex2⟩
              have hp2 := hp1'.next m2 m2' hpost2
              have hr2 : ρ2 b = some r := hpost2.ext _ _ hr1
              have fin : ∀ (jj : Option Code), jj = j → rr = jj.isNone → ∃ v w', (Instr.endRound r.blk jj).run P w2 = .ok v w' ∧ ∃ ρ', Post ρ T s w ρ' ((s2.put b (.loop rr j sz2 tmps2 ps2 assign2 body2 d2)).note (.all b)) w' ∧ ResR ρ' (.ret (.bool rr)) (.returned v) := by
                intro jj hjj hrr
                subst hjj
                obtain ⟨v, w3, h1, h2, h3⟩ := round_end (P := P) hp2.good (by
                  obtain ⟨i, hi⟩ := hT1
                  exact ⟨i, .inl (.inl hi)⟩) hb2 hr2 rr jj hrr
                refine ⟨v, w3, h1, ρ2, Post.trans m1 m12 hpost1 (Post.trans m1' (m2.trans m2') hpost1' (Post.trans m2 m2' hpost2 h3)), ?_⟩
                rw [h2]
                exact .bool _
              cases e2 <;> cases E2 <;> simp only [ExR] at hex2 <;> simp only [roundEnd, Option.some.injEq, Prod.mk.injEq, reduceCtorEq] at hre
              · exact fin none hre.2 hre.1.symm
              · subst hex2
                exact fin _ hre.2 hre.1.symm
              · subst hex2
                exact fin _ hre.2 hre.1.symm
              · exact fin _ hre.2 hre.1.symm
            · cases h
          · cases h
        · cases h
      · cases h
    · cases h
  · cases h
end
end Go.Proofs.YtmabpnmnppfgaaaGreatDoor.Rk
namespace Go.Proofs.YtmabpnmnppfgaaaGreatDoor.Rk
open Go
set_option linter.unusedVariables false
section
variable {P : Program} {C : Callee}
theorem ex_norm {ρ : Env} {e : AExit} {E : Exit} (h : ExR ρ e E) (he : e ≠ .normal) : E ≠ .normal := by
  intro hE; subst hE
  cases e <;> first | exact he rfl | exact h
theorem ex_goto {ρ : Env} {e : AExit} {l : Nat} (h : ExR ρ e (.goto l)) : e = .goto l := by
  cases e <;> first | exact h.elim | (have := h; simp only [ExR] at this; rw [this])
theorem ex_exit {ρ : Env} {e : AExit} {l : Nat} (h : ExR ρ e (.exit l)) : e = .exit l := by
  cases e <;> first | exact h.elim | (have := h; simp only [ExR] at this; rw [this])
theorem Add.alloc (w : World) (o : Obj) : Add w (w.alloc o) o := Add.push w o
theorem ev_ok (hm : P.follows .mixedOrders = true) (hC : CSound P C) : ∀ f, (∀ R, EvS P (ev P C f R) R) ∧ (∀ R, JuS P (jump P C f R) R f) ∧ ∀ R, LoS P (ev P C f R) R f
  | 0 => ⟨fun R c aa s e aa' s' h => by simp [ev] at h, fun R c l aa s e aa' s' h => by simp [jump] at h, fun R c aa s e aa' s' h => by simp [ev] at h⟩
  | f + 1 => by
    obtain ⟨ihE, ihJ, ihL⟩ := ev_ok hm hC f
    have hL : ∀ R, LoS P (ev P C (f + 1) R) R (f + 1) := by
      intro R c aa s e aa' s' h hwf
      unfold ev at h
      simp only at h
      split at h
      · rename_i aa1 s1 h1
        obtain ⟨m1, k1⟩ := ihE R _ _ _ _ _ _ h1 hwf
        obtain ⟨m2, k2⟩ := ihL R _ _ _ _ _ _ h (m1.wf hwf)
        refine ⟨m1.trans m2, fun ρ T w a r n hr hp ha => ?_⟩
        rw [roundsIn_succ]
        refine wpIn_mono (k1 ρ T w a r n hr (hp.first m2) ha) ?_
        rintro E1 a1 w1 ⟨ρ1, g1, g2, g3⟩
        cases E1 <;> try exact g3.elim
        exact rounds_mono (fun E2 a2 w2 h2 => h2.after m1 m2 g1) _ _ _ (k2 ρ1 _ w1 a1 r n hr (hp.next m1 m2 g1) g2)
      · rename_i hne
        obtain ⟨m1, k1⟩ := ihE R _ _ _ _ _ _ h hwf
        refine ⟨m1, fun ρ T w a r n hr hp ha => ?_⟩
        rw [roundsIn_succ]
        refine wpIn_mono (k1 ρ T w a r n hr hp ha) ?_
        rintro E1 a1 w1 ⟨ρ1, g1, g2, g3⟩
        have hen : e ≠ .normal := fun he => hne aa' s' (by rw [h, he])
        cases E1 <;> first | exact absurd rfl (ex_norm g3 hen) | exact ⟨ρ1, g1, g2, g3⟩
    refine ⟨fun R c aa s e aa' s' h hwf => ?_, fun R c l aa s e aa' s' h hwf => ?_, hL⟩
    · unfold ev at h
      split at h
      ·
        cases h
        exact ⟨Mono.refl _, fun ρ T w a r n hr hp ha => wpIn_skip ⟨ρ, Post.refl hp, ha, trivial⟩⟩
      · cases h
        exact ⟨Mono.refl _, fun ρ T w a r n hr hp ha => wpIn_label ⟨ρ, Post.refl hp, ha, trivial⟩⟩
      ·
        rename_i id ops draw
        have hY := ysound (ihE true)
        cases hx : regOps P C (roundY (ev P C f true)) R ops.toList draw aa s with
        | no => rw [hx] at h; cases h
        | ok aa1 s1 =>
          rw [hx] at h
          cases h
          exact ⟨regOps_mono hC hY hwf hx rfl, fun ρ T w a r n hr hp ha => regOps_ok hm hC hY hr hx rfl hp ha (fun ρ' a' w' h1 h2 => ⟨ρ', h1, h2, trivial⟩)⟩
        | pan aa1 v s1 =>
          rw [hx] at h
          cases h
          exact ⟨regOps_mono hC hY hwf hx rfl, fun ρ T w a r n hr hp ha => regOps_ok hm hC hY hr hx rfl hp ha (fun ρ' a' w' v' h1 h2 h3 => ⟨ρ', h1, h2, v', rfl, h3⟩)⟩
      ·
        rename_i x y
        split at h
        · rename_i aa1 s1 h1
          obtain ⟨m1, k1⟩ := ihE R _ _ _ _ _ _ h1 hwf
          obtain ⟨m2, k2⟩ := ihE R _ _ _ _ _ _ h (m1.wf hwf)
          refine ⟨m1.trans m2, fun ρ T w a r n hr hp ha => wpIn_seq (wpIn_mono (k1 ρ T w a r n hr (hp.first m2) ha) ?_)⟩
          rintro E1 a1 w1 ⟨ρ1, g1, g2, g3⟩
          cases E1 <;> try exact g3.elim
          exact wpIn_mono (k2 ρ1 _ w1 a1 r n hr (hp.next m1 m2 g1) g2) (fun E2 a2 w2 h2 => h2.after m1 m2 g1)
        · rename_i hne
          obtain ⟨m1, k1⟩ := ihE R _ _ _ _ _ _ h hwf
          refine ⟨m1, fun ρ T w a r n hr hp ha => wpIn_seq (wpIn_mono (k1 ρ T w a r n hr hp ha) ?_)⟩
          rintro E1 a1 w1 ⟨ρ1, g1, g2, g3⟩
          have hen : e ≠ .normal := fun he => hne aa' s' (by rw [h, he])
          cases E1 <;> first | exact absurd rfl (ex_norm g3 hen) | exact ⟨ρ1, g1, g2, g3⟩
      ·
        rename_i c x y
        split at h
        · rename_i hc
          obtain ⟨m1, k1⟩ := ihE R _ _ _ _ _ _ h hwf
          refine ⟨m1, fun ρ T w a r n hr hp ha => ?_⟩
          have := ha.eval c
          rw [hc] at this
          generalize hcc : a.eval c = c' at this
          cases this
          exact wpIn_cond_true hcc (k1 ρ T w a r n hr hp ha)
        · rename_i hc
          obtain ⟨m1, k1⟩ := ihE R _ _ _ _ _ _ h hwf
          refine ⟨m1, fun ρ T w a r n hr hp ha => ?_⟩
          have := ha.eval c
          rw [hc] at this
          generalize hcc : a.eval c = c' at this
          cases this
          exact wpIn_cond_false hcc (k1 ρ T w a r n hr hp ha)
        · cases h
      ·
        rename_i id c
        split at h
        · rename_i j aa1 s1 h1
          cases h
          obtain ⟨m1, k1⟩ := ihE R _ _ _ _ _ _ h1 hwf
          refine ⟨m1, fun ρ T w a r n hr hp ha => wpIn_block (wpIn_mono (k1 ρ T w a r n hr hp ha) ?_)⟩
          rintro E1 a1 w1 ⟨ρ1, g1, g2, g3⟩
          cases E1 <;> try exact g3.elim
          have hj : j = _ := g3
          subst hj
          by_cases hid : j = id
          · simp only [Exit.inBlock, hid, if_true]
            exact ⟨ρ1, g1, g2, trivial⟩
          · simp only [Exit.inBlock, hid, if_false]
            exact ⟨ρ1, g1, g2, rfl⟩
        · rename_i hne
          obtain ⟨m1, k1⟩ := ihE R _ _ _ _ _ _ h hwf
          refine ⟨m1, fun ρ T w a r n hr hp ha => wpIn_block (wpIn_mono (k1 ρ T w a r n hr hp ha) ?_)⟩
          rintro E1 a1 w1 ⟨ρ1, g1, g2, g3⟩
          cases E1 <;> try exact ⟨ρ1, g1, g2, g3⟩
          exact absurd (by rw [h, ex_exit g3]) (hne _ aa' s')
      ·
        rename_i c
        obtain ⟨m1, k1⟩ := hL R c aa s e aa' s' (by unfold ev; exact h) hwf
        exact ⟨m1, fun ρ T w a r n hr hp ha => wpIn_loop_rounds _ (k1 ρ T w a r n hr hp ha)⟩
      · cases h; exact ⟨Mono.refl _, fun ρ T w a r n hr hp ha => wpIn_exit ⟨ρ, Post.refl hp, ha, rfl⟩⟩
      · cases h; exact ⟨Mono.refl _, fun ρ T w a r n hr hp ha => wpIn_goto ⟨ρ, Post.refl hp, ha, rfl⟩⟩
      · cases h; exact ⟨Mono.refl _, fun ρ T w a r n hr hp ha => wpIn_ret ⟨ρ, Post.refl hp, ha, trivial⟩⟩
      ·
        rename_i c
        split at h
        · rename_i l aa1 s1 h1
          obtain ⟨m1, k1⟩ := ihE R _ _ _ _ _ _ h1 hwf
          obtain ⟨m2, k2⟩ := ihJ R _ _ _ _ _ _ _ h (m1.wf hwf)
          refine ⟨m1.trans m2, fun ρ T w a r n hr hp ha => wpIn_scope_jumps (wpIn_mono (k1 ρ T w a r n hr (hp.first m2) ha) ?_)⟩
          rintro E1 a1 w1 ⟨ρ1, g1, g2, g3⟩
          cases E1 <;> try exact g3.elim
          have hl : l = _ := g3
          subst hl
          exact ⟨_, jumpsIn_mono (fun E2 a2 w2 h2 => h2.after m1 m2 g1) _ _ _ _ (k2 ρ1 _ w1 a1 r n hr (hp.next m1 m2 g1) g2)⟩
        · rename_i hne
          obtain ⟨m1, k1⟩ := ihE R _ _ _ _ _ _ h hwf
          refine ⟨m1, fun ρ T w a r n hr hp ha => wpIn_scope_jumps (wpIn_mono (k1 ρ T w a r n hr hp ha) ?_)⟩
          rintro E1 a1 w1 ⟨ρ1, g1, g2, g3⟩
          cases E1 <;> try exact ⟨ρ1, g1, g2, g3⟩
          exact absurd (by rw [h, ex_goto g3]) (hne _ aa' s')
      ·
        rename_i g ps assign body
        split at h
        · cases h
        · rename_i hR
          have hRf : R = false := by simpa using hR
          subst hRf
          split at h
          · rename_i gf first cap hg
            split at h
            · rename_i v3 s3 hcall
              have mA : Mono s (s.new .defd) := Mono.new _ _
              have mB : Mono (s.new .defd) ((s.new .defd).new (.loop true none aa.sz aa.tmps ps.toList assign body s.n)) := Mono.new _ _
              have hwf2 := mB.wf (mA.wf hwf)
              obtain ⟨m3, k3⟩ := hC _ _ _ _ _ hcall hwf2
              have main : ∀ (rd : Bool) (p : Option Code) sz tm pl as bd d, s3.heap.get (s.n + 1) = some (.loop rd p sz tm pl as bd d) → loopState rd p ≠ .busy → Mono ((s3.put (s.n + 1) .dead).note (.all (s.n + 1))) s' → (∀ ρ T w a n, Pre ρ T ((s3.put (s.n + 1) .dead).note (.all (s.n + 1))) s' w → ActR ρ { aa with defs := .mark s.n :: aa.defs } a →
                    match p with
                    | none => EvPost ρ T ((s3.put (s.n + 1) .dead).note (.all (s.n + 1))) w e aa' s' .normal a w
                    | some c => c.wpIn (FW none) n P (EvPost ρ T ((s3.put (s.n + 1) .dead).note (.all (s.n + 1))) w e aa' s') a w) →
                  Mono s s' ∧ ∀ ρ T w a r n, (false = false → r = none) → Pre ρ T s s' w → ActR ρ aa a → (Code.rangeFunc g ps assign body).wpIn (FW r) n P (EvPost ρ T s w e aa' s') a w := by
                intro rd p sz tm pl as bd d hb3 hst m5 k5
                have m4 : Mono s3 ((s3.put (s.n + 1) .dead).note (.all (s.n + 1))) := Mono.put_note _ _ _ ⟨_, hb3, trivial⟩
                have mC := m3.trans (m4.trans m5)
                refine ⟨mA.trans (mB.trans mC), fun ρ T w a r n hr hp ha => ?_⟩
                have hrn := hr rfl
                subst hrn
                refine wpIn_rangeFunc (fun fn _ => ?_)
                have hge := ha.eval g
                rw [hg] at hge
                generalize hgg : a.eval g = g' at hge
                cases hge with
                | func _ _ _ k' l' h1 h2 =>
                have hn1 : s.n < s'.n := Nat.lt_of_lt_of_le (Nat.lt_succ_self _) (mB.trans mC).n
                have post1 : Post ρ T s w (ρ.add s.n ⟨w.heap.size, 0, 0⟩) (s.new .defd) (w.alloc (.deferred (some []))) :=
                  Post.made hp.good hp.wf (hp.fresh _ (Nat.le_refl _) hn1) hp.tn (Add.alloc _ _) rfl ⟨_, Env.add_self _ _, World.alloc_heap_new _ _⟩
                have hp1 := hp.next mA (mB.trans mC) post1
                have hn2 : s.n + 1 < s'.n := Nat.lt_of_lt_of_le (Nat.lt_succ_self _) mC.n
                have post2 : Post (ρ.add s.n ⟨w.heap.size, 0, 0⟩) (Tn T s.n (s.new .defd).n) (s.new .defd) (w.alloc (.deferred (some []))) ((ρ.add s.n ⟨w.heap.size, 0, 0⟩).add (s.n + 1) ⟨w.heap.size + 1, 0, 0⟩) ((s.new .defd).new (.loop true none aa.sz aa.tmps ps.toList assign body s.n))
                    ((w.alloc (.deferred (some []))).alloc (.loop { state := .ready, pending := none, fn, tmps := a.tmps, params := ps, assign, body, defers := w.heap.size })) := by
                  refine Post.made hp1.good hp1.wf (hp1.fresh _ (Nat.le_refl _) hn2) hp1.tn (Add.alloc _ _) (by simp) ?_
                  refine ⟨_, fn, a.tmps, ⟨w.heap.size, 0, 0⟩, Env.add_self _ _, ?_, ?_, ha.size, fun t => (ha.get t).mono ?_⟩
                  · rw [Env.add_ne _ (by show s.n ≠ s.n + 1; omega)]
                    exact Env.add_self _ _
                  · have := World.alloc_heap_new (w.alloc (.deferred (some []))) (.loop { state := .ready, pending := none, fn, tmps := a.tmps, params := ps, assign, body, defers := w.heap.size })
                    simpa [loopState] using this
                  · exact Env.le_trans post1.ext (Env.add_le (hp1.fresh _ (Nat.le_refl _) hn2))
                have hp2 := hp1.next mB mC post2
                have hle2 : ρ.le ((ρ.add s.n ⟨w.heap.size, 0, 0⟩).add (s.n + 1) ⟨w.heap.size + 1, 0, 0⟩) := Env.le_trans post1.ext post2.ext
                have hall : VRL ((ρ.add s.n ⟨w.heap.size, 0, 0⟩).add (s.n + 1) ⟨w.heap.size + 1, 0, 0⟩) (first ++ .yield (s.n + 1) :: cap) (k' ++ #[Value.func (.yield (w.heap.size + 1)) #[] #[]] ++ l').toList := by
                  simp only [Array.toList_append, List.append_assoc, List.singleton_append]
                  exact (h1.mono hle2).append (.cons _ _ _ _ (.yield _ ⟨w.heap.size + 1, 0, 0⟩ (Env.add_self _ _)) (h2.mono hle2))
                obtain ⟨hent, hcalls⟩ := k3 _ _ _ _ (hp2.first (m4.trans m5)) hall
                refine ⟨w.heap.size + 1, [{ target := .collected w.heap.size, args := #[] }], _, { target := .fn (.func gf) l', args := k' ++ #[.func (.yield (w.heap.size + 1)) #[] #[]] }, _, gf, _, _, run_enterLoop_outer fn a.tmps ps assign body, ?_, fun _ _ => trivial, hent _, fun hh => by simp [FW, Fence.wide] at hh, (hcalls (n - 1)).mono ?_⟩
                · show (Deferred.ofValue (a.eval g) (#[Operand.const (.func (.yield (w.heap.size + 1)) #[] #[])].map a.eval)).run P _ = _
                  rw [hgg]
                  simp [Deferred.ofValue, Sem.run_pure]
                  rfl
                · rintro E3 w3 ⟨ρ3, hpost3, hres⟩
                  cases E3 with
                  | panicked ch => exact hres.elim
                  | outgrown => exact hres.elim
                  | returned v' =>
                  have hp3 := hp2.next m3 (m4.trans m5) hpost3
                  have hr3 : ρ3 (s.n + 1) = some ⟨w.heap.size + 1, 0, 0⟩ := hpost3.ext _ _ (Env.add_self _ _)
                  have hT3 : ∃ i, Tn (Tn (Tn T s.n (s.new .defd).n) (s.new .defd).n ((s.new .defd).new (.loop true none aa.sz aa.tmps ps.toList assign body s.n)).n) ((s.new .defd).new (.loop true none aa.sz aa.tmps ps.toList assign body s.n)).n s3.n (s.n + 1) i :=
                    ⟨0, .inl (.inr ⟨Nat.le_refl _, Nat.lt_succ_self _⟩)⟩
                  obtain ⟨fn3, tm3, q3, f1, f2, f3, f4⟩ := loop_at hp3.good hT3 hb3 hr3
                  have post4 : Post ρ3 _ s3 w3 ρ3 ((s3.put (s.n + 1) .dead).note (.all (s.n + 1))) (w3.putObj (w.heap.size + 1) _) := Post.alt (x' := .dead) (r := ⟨w.heap.size + 1, 0, 0⟩) hp3.good hb3 trivial hT3 hr3 (alt_put w3 (.loop { state := .exhausted, pending := p, fn := fn3, tmps := tm3, params := pl.toArray, assign := as, body := bd, defers := q3.blk }) f2) trivial
                  have hp4 := hp3.next m4 m5 post4
                  have hact : ActR ρ3 { aa with defs := .mark s.n :: aa.defs } { a with defers := [{ target := .collected w.heap.size, args := #[] }] ++ a.defers } := by
                    have hle3 := Env.le_trans hle2 hpost3.ext
                    refine ⟨ha.size, fun t => (ha.get t).mono hle3, .cons _ _ _ _ (.mark _ ⟨w.heap.size, 0, 0⟩ ?_) (ha.defs.mono hle3)⟩
                    refine hpost3.ext _ _ (post2.ext _ _ (Env.add_self _ _))
                  have hfin := k5 _ _ _ _ n hp4 hact
                  refine ⟨p, _, run_endLoop f2 hst, ?_⟩
                  have aft : ∀ E a' w', EvPost _ _ _ _ e aa' s' E a' w' → EvPost ρ T s w e aa' s' E a' w' := fun E a' w' h => EvPost.after mA (mB.trans mC) post1 (EvPost.after mB mC post2 (EvPost.after m3 (m4.trans m5) hpost3 (EvPost.after m4 m5 post4 h)))
                  cases p with
                  | none => exact aft _ _ _ hfin
                  | some c => exact wpIn_mono hfin aft
              split at h
              · rename_i rd sz tm pl as bd d hb3
                split at h
                · rename_i hrd
                  cases h
                  exact main _ _ _ _ _ _ _ _ hb3 (by rw [hrd]; simp [loopState]) (Mono.refl _) (fun ρ T w a n hp ha => ⟨ρ, Post.refl hp, ha, trivial⟩)
                · cases h
              · rename_i rd c sz tm pl as bd d hb3
                have hwf4 := (Mono.put_note s3 (s.n + 1) .dead ⟨_, hb3, trivial⟩).wf (m3.wf hwf2)
                obtain ⟨m5, k5⟩ := ihE false _ _ _ _ _ _ h hwf4
                exact main _ _ _ _ _ _ _ _ hb3 (by unfold loopState; cases rd <;> simp) m5 (fun ρ T w a n hp ha => k5 ρ T w a none n (fun _ => rfl) hp ha)
              · cases h
            · cases h
          · cases h
      · cases h
    · unfold jump at h
      split at h
      · rename_i rest hf
        split at h
        · rename_i l' aa1 s1 h1
          obtain ⟨m1, k1⟩ := ihE R _ _ _ _ _ _ h1 hwf
          obtain ⟨m2, k2⟩ := ihJ R _ _ _ _ _ _ _ h (m1.wf hwf)
          refine ⟨m1.trans m2, fun ρ T w a r n hr hp ha => ⟨rest, hf, wpIn_mono (k1 ρ T w a r n hr (hp.first m2) ha) ?_⟩⟩
          rintro E1 a1 w1 ⟨ρ1, g1, g2, g3⟩
          cases E1 <;> try exact g3.elim
          have hl : l' = _ := g3
          subst hl
          exact jumpsIn_mono (fun E2 a2 w2 h2 => h2.after m1 m2 g1) _ _ _ _ (k2 ρ1 _ w1 a1 r n hr (hp.next m1 m2 g1) g2)
        · rename_i hne
          obtain ⟨m1, k1⟩ := ihE R _ _ _ _ _ _ h hwf
          refine ⟨m1, fun ρ T w a r n hr hp ha => ⟨rest, hf, wpIn_mono (k1 ρ T w a r n hr hp ha) ?_⟩⟩
          rintro E1 a1 w1 ⟨ρ1, g1, g2, g3⟩
          cases E1 <;> try exact ⟨ρ1, g1, g2, g3⟩
          exact absurd (by rw [h, ex_goto g3]) (hne _ aa' s')
      · cases h
end
end Go.Proofs.YtmabpnmnppfgaaaGreatDoor.Rk
