/- Part Rk5 of the proof: the statement that is proved stands in the text that ends with its name. No conditions beyond the card's. -/
import Derived.Test.YtmabpnmnppfgaaaGreatDoorRk4
namespace Go.Proofs.YtmabpnmnppfgaaaGreatDoor.Rk
open Go Go.RowKit
set_option linter.unusedVariables false
mutual
def eqA : AV → AV → Bool
  | .top, .top => true
  | .bool a, .bool b => a == b
  | .int k a, .int j b => decide (k = j) && a == b
  | .str a, .str b => decide (a = b)
  | .ptr a b, .ptr c d => Nat.beq a c && Nat.beq b d
  | .nilp, .nilp => true
  | .slice a b c d e, .slice a' b' c' d' e' => Nat.beq a a' && Nat.beq b b' && Nat.beq c c' && Nat.beq d d' && Nat.beq e e'
  | .nils, .nils => true
  | .map a, .map b => Nat.beq a b
  | .nilm, .nilm => true
  | .func f k l, .func g m n => Nat.beq f g && eqL k m && eqL l n
  | .nilf, .nilf => true
  | .iface t a, .iface u b => Nat.beq t u && eqA a b
  | .nili, .nili => true
  | .agg a, .agg b => eqL a b
  | .tuple a, .tuple b => eqL a b
  | _, _ => false
def eqL : List AV → List AV → Bool
  | [], [] => true
  | a :: l, b :: m => eqA a b && eqL l m
  | _, _ => false
end
theorem nbeq {a b : Nat} (h : Nat.beq a b = true) : a = b := Nat.eq_of_beq_eq_true h
def eqM : List ME → List ME → Bool
  | [], [] => true
  | a :: l, b :: m => eqA a.k b.k && eqA a.v b.v && Nat.beq a.born b.born && eqM l m
  | _, _ => false
def eqB : ABlk → ABlk → Bool
  | .cells t cs, .cells u ds => Nat.beq t u && eqL cs ds
  | .map es c, .map fs d => Nat.beq c d && eqM es fs
  | .miter m a b c, .miter m' a' b' c' => decide (m = m') && decide (a = a') && decide (b = b') && decide (c = c')
  | .siter l p, .siter m q => decide (l = m) && decide (p = q)
  | .pmap es, .pmap fs => eqM es fs
  | .defd, .defd => true
  | .dead, .dead => true
  | _, _ => false
structure OE where
  b : Nat
  pre : ABlk
  post : ABlk
  wr : Bool
structure Memo where
  f : FuncId
  args : List AV
  n0 : Nat
  old : List OE
  v : AV
  n1 : Nat
  new : List (Nat × ABlk)
def lenB : ABlk → Nat
  | .cells _ cs => cs.length
  | _ => 1
def OE.le (o : OE) : LE := if o.wr then .all o.b else .rd o.b 0 (lenB o.pre)
def putAll {α : Type} (h : Tr α) : List (Nat × α) → Tr α
  | [] => h
  | p :: l => putAll (h.set p.1 p.2) l
def Memo.start (M : Memo) : St := ⟨putAll .leaf (M.old.map fun o => (o.b, o.pre)), M.n0, []⟩
def sameAt (h : Tr ABlk) (b : Nat) (x : ABlk) : Bool := match h.get b with
  | some y => eqB y x
  | none => false
section
variable {P : Program} {ρ : Env} {T : Nat → Nat → Prop} {s s' : St} {w w' : World}
theorem Good.sub {h h2 : Nat → Option ABlk} (hG : Good ρ T h w) (hs : ∀ b y, h2 b = some y → h b = some y) : Good ρ T h2 w :=
  ⟨fun b x hb => hG.sat b x (hs b x hb), fun b b' r r' x x' hx hx' => hG.inj b b' r r' x x' (hs b x hx) (hs b' x' hx'), hG.old⟩
def ToldT (P : Program) (f : FuncId) (g : List AV → St → Option (AV × St)) : Prop := ∀ args s v s', g args s = some (v, s') → WfS s → Mono s s' ∧ ∀ (ρ : Env) (T : Nat → Nat → Prop) (w : World) (vs : Array Value), Pre ρ T s s' w → VRL ρ args vs.toList →
  (∀ w1, (callFunc f vs).run P w1 = .ok (.enter f vs) w1) ∧ ∀ n, CallsIn Fence.wide n P f vs w (fun e w' => ∃ ρ', Post ρ T s w ρ' s' w' ∧ ResR ρ' (.ret v) e)
def oOr (g1 g2 : List AV → St → Option (AV × St)) : List AV → St → Option (AV × St) := fun args s => match g1 args s with
  | some r => some r
  | none => g2 args s
theorem ToldT.or {f : FuncId} {g1 g2 : List AV → St → Option (AV × St)} (h1 : ToldT P f g1) (h2 : ToldT P f g2) : ToldT P f (oOr g1 g2) := by
  intro args s v s' h hwf
  unfold oOr at h
  split at h
  · rename_i r hr
    cases h
    exact h1 args s v s' hr hwf
  · exact h2 args s v s' h hwf
def addT (O : Told) (f0 : FuncId) (g : List AV → St → Option (AV × St)) : Told := fun f => bif Nat.beq f f0 then some (match O f with
  | some g0 => oOr g g0
  | none => g) else O f
theorem TSound.add {O : Told} {f0 : FuncId} {g : List AV → St → Option (AV × St)} (hO : TSound P O) (hg : ToldT P f0 g) : TSound P (addT O f0 g) := by
  intro f g1 h
  unfold addT at h
  cases hb : Nat.beq f f0 with
  | false => rw [hb] at h; exact hO f g1 h
  | true =>
    rw [hb] at h
    have hf := nbeq hb
    subst hf
    simp only [cond_true, Option.some.injEq] at h
    cases hO0 : O f with
    | none => rw [hO0] at h; subst h; exact hg
    | some g0 => rw [hO0] at h; subst h; exact hg.or (hO f g0 hO0)
end
end Go.Proofs.YtmabpnmnppfgaaaGreatDoor.Rk
namespace Go.Proofs.YtmabpnmnppfgaaaGreatDoor.Rk
open Go Go.RowKit
set_option linter.unusedVariables false
section
variable {P : Program} {ρ : Env} {T : Nat → Nat → Prop} {s s' : St} {w w' : World}
theorem Told1.toT {f : FuncId} {g : List AV → St → Option (AV × St)} (hP : plainFuncs P = true) (hb : (P.funcs[f]?).any (·.body.isSome) = true) (h : Told1 P f g) : ToldT P f g := by
  intro args s v s' hg hwf
  obtain ⟨m, k⟩ := h args s v s' hg hwf
  refine ⟨m, fun ρ T w vs hp hargs => ⟨fun w1 => ?_, fun n => callsIn_wide.2 (k ρ T w vs hp hargs)⟩⟩
  cases hfn : P.funcs[f]? with
  | none => rw [hfn] at hb; cases hb
  | some fn =>
    rw [hfn] at hb
    obtain ⟨c, hc⟩ := Option.isSome_iff_exists.1 (by simpa using hb)
    exact enters hP hfn hc vs w1
theorem TSound.none : TSound P (fun _ => none) := fun f g h => by cases h
end
end Go.Proofs.YtmabpnmnppfgaaaGreatDoor.Rk
namespace Go.Proofs.YtmabpnmnppfgaaaGreatDoor.Rk
open Go Go.RowKit
set_option linter.unusedVariables false
section
variable {P : Program} {ρ : Env} {T : Nat → Nat → Prop} {s s' : St} {w w' : World}
theorem Post.grown {st : TypeId} {cs : List AV} {cur : Array Value} {g : Nat} {s1 : St} (hp : Pre ρ T s s' w) (h1 : s1.heap = s.heap) (h2 : s1.n = s.n) (hs : s' = s1.new (.cells (2 * st) cs)) (hw : Below w.heap.size w w') (hg : w.heap.size ≤ g) (hb : w'.heap[g]? = some (.cells cur st (0, 0))) (hl : cs.length ≤ cur.size)
    (hv : ∀ (i : Nat) (a : AV), cs[i]? = some a → ∃ v, cur[i]? = some v ∧ VR ρ a v) : Post ρ T s w (ρ.add s.n ⟨g, 0, cur.size⟩) s' w' := by
  have hn : s'.n = s.n + 1 := by rw [hs]; show s1.n + 1 = _; rw [h2]
  have hheap : ∀ b, s'.heap.get b = if b = s.n then some (.cells (2 * st) cs) else s.heap.get b := fun b => by
    rw [hs]
    show (s1.heap.set s1.n _).get b = _
    rw [Tr.get_set, h1, h2]
  have hf : ρ s.n = none := hp.fresh s.n (Nat.le_refl _) (by omega)
  have hgl : g < w'.heap.size := (Array.getElem?_eq_some_iff.1 hb).1
  have hk : ∀ b r, ρ b = some r → w'.heap[r.blk]? = w.heap[r.blk]? := fun b r hb => hw.block _ (hp.good.old b r hb)
  have hself : (ρ.add s.n ⟨g, 0, cur.size⟩) s.n = some ⟨g, 0, cur.size⟩ := Env.add_self _ _
  have hle : ρ.le (ρ.add s.n ⟨g, 0, cur.size⟩) := Env.add_le hf
  have hne : ∀ b, b ≠ s.n → (ρ.add s.n ⟨g, 0, cur.size⟩) b = ρ b := fun b hb => by unfold Env.add; rw [if_neg hb]
  have hTn : ∀ b, (∃ i, Tn T s.n s'.n b i) → b ≠ s.n → ∃ i, T b i := fun b ⟨i, hi⟩ hb => by
    rcases hi with hi | hi
    · exact ⟨i, hi⟩
    · omega
  refine ⟨hle, fun b r hr => ?_, fun b r h3 h4 h5 => ?_, ⟨fun b x hx hT => ?_, fun b b' r r' x x' hx hx' hl hl' ht ht' hr hr' e => ?_, fun b r hr => ?_⟩, ⟨hw.os, hw.tape, hw.output, hw.size, fun B hB _ => hw.block B hB, fun B c t fr hc _ => ⟨c, (hw.block B (lt_of_some hc)).trans hc, rfl, fun _ _ => rfl⟩⟩⟩
  · by_cases hb : b = s.n
    · exact .inr (by omega)
    · rw [hne b hb] at hr; exact .inl hr
  · by_cases hb : b = s.n
    · subst hb
      rw [hself] at h4
      cases h4
      exact absurd h5 (Nat.not_lt.2 hg)
    · rw [hne b hb, h3] at h4; cases h4
  · rw [hheap] at hx
    by_cases hbn : b = s.n
    · subst hbn
      rw [if_pos rfl] at hx
      cases hx
      refine ⟨⟨g, 0, cur.size⟩, cur, (0, 0), hself, (by rw [two_half]; exact hb), (by simp), Fits.even st hl, fun o _ _ => by simp, fun i a ha _ => ?_⟩
      obtain ⟨v, k1, k2⟩ := hv i a ha
      exact ⟨v, by simpa using k1, k2.mono hle⟩
    · rw [if_neg hbn] at hx
      have hT' := hTn b hT hbn
      exact (hp.good.sat b x hx hT').mono hle (fun i hi => by
        rcases hi with hi | hi
        · exact hi
        · omega) (fun r hr => hk b r hr)
  · by_cases hbn : b = s.n
    · by_cases hbn' : b' = s.n
      · rw [hbn, hbn']
      · rw [hbn, hself] at hr
        rw [hne b' hbn'] at hr'
        cases hr
        have h6 := hp.good.old b' r' hr'
        have h7 : g = r'.blk := e
        omega
    · by_cases hbn' : b' = s.n
      · rw [hbn', hself] at hr'
        rw [hne b hbn] at hr
        cases hr'
        have h6 := hp.good.old b r hr
        have h7 : r.blk = g := e
        omega
      · rw [hheap, if_neg hbn] at hx
        rw [hheap, if_neg hbn'] at hx'
        rw [hne b hbn] at hr
        rw [hne b' hbn'] at hr'
        exact hp.good.inj b b' r r' x x' hx hx' hl hl' (hTn b ht hbn) (hTn b' ht' hbn') hr hr' e
  · by_cases hb : b = s.n
    · subst hb
      rw [hself] at hr
      cases hr
      exact hgl
    · rw [hne b hb] at hr
      exact Nat.lt_of_lt_of_le (hp.good.old b r hr) hw.size
end
end Go.Proofs.YtmabpnmnppfgaaaGreatDoor.Rk
namespace Go.Proofs.YtmabpnmnppfgaaaGreatDoor.Rk
open Go Go.RowKit
set_option linter.unusedVariables false
section
variable {P : Program} {ρ : Env} {T : Nat → Nat → Prop} {s s' : St} {w w' : World}
end
end Go.Proofs.YtmabpnmnppfgaaaGreatDoor.Rk
namespace Go.Proofs.YtmabpnmnppfgaaaGreatDoor.Rk
open Go Go.RowKit
set_option linter.unusedVariables false
structure Kn (ρ : Env) (s : St) (base : Nat) (w : World) : Prop where
  good : Good ρ (fun b _ => b < s.n) s.heap.get w
  wf : WfS s
  off : ∀ b, s.n ≤ b → ρ b = none
  ge : ∀ b r, ρ b = some r → base ≤ r.blk
  le : base ≤ w.heap.size
section
variable {P : Program} {ρ : Env} {s s' : St} {base g : Nat} {w w' : World} {t : TypeId} {cs : Array Value} {as : List AV}
theorem Kn.below (h : Kn ρ s base w) (hs : w.heap.size ≤ w'.heap.size) (hb : ∀ k, k < w.heap.size → w'.heap[k]? = w.heap[k]?) : Kn ρ s base w' :=
  ⟨⟨fun b x hx hT => (h.good.sat b x hx hT).mono (Env.le_refl _) (fun _ h => h) (fun r hr => hb _ (h.good.old b r hr)), h.good.inj, fun b r hr => Nat.lt_of_lt_of_le (h.good.old b r hr) hs⟩, h.wf, h.off, h.ge, Nat.le_trans h.le hs⟩
theorem cells_br {k : Nat} (hk : w.heap[g]? = some (.cells cs t (0, 0))) (hkt : k / 2 = t) {b : Nat} (hρ : ρ b = some ⟨g, 0, cs.size⟩) (hv : VRL ρ as cs.toList) (T : Nat → Prop) : BR ρ T b w (.cells k as) := by
  have hl : cs.size = as.length := by have := hv.length; simpa using this
  refine ⟨_, cs, (0, 0), hρ, by rw [hkt]; exact hk, by simp, ⟨by show as.length ≤ cs.size; omega, fun _ => ⟨rfl, by show cs.size = as.length; omega⟩⟩, fun o _ _ => by simp, fun i a hi _ => ?_⟩
  obtain ⟨v, h1, h2⟩ := VRL.get i hv hi
  exact ⟨v, by simpa using h1, h2⟩
def env1 (g k n : Nat) : Env := fun b => if b = 0 then some ⟨g, 0, k⟩ else if b = 1 then some ⟨g, 0, n⟩ else none
theorem Kn.start (hk : w.heap[g]? = some (.cells cs t (0, 0))) (hg : base ≤ g) (n : Nat) (hv : VRL (env1 g cs.size n) as cs.toList) : Kn (env1 g cs.size n) ⟨Tr.leaf.set 0 (.cells (2 * t) as), 2, []⟩ base w := by
  have hlt : g < w.heap.size := lt_of_some hk
  have hget : ∀ b, (Tr.leaf.set 0 (ABlk.cells (2 * t) as)).get b = if b = 0 then some (ABlk.cells (2 * t) as) else none := fun b => by
    rw [Tr.get_set]
    rfl
  have henv : ∀ b r, env1 g cs.size n b = some r → r.blk = g := fun b r hr => by
    unfold env1 at hr
    split at hr
    · cases hr; rfl
    · split at hr
      · cases hr; rfl
      · cases hr
  refine ⟨⟨fun b x hx _ => ?_, fun b b' r r' x x' hx hx' _ _ _ _ _ _ _ => ?_, fun b r hr => by rw [henv b r hr]; exact hlt⟩, fun b hb => ?_, fun b hb => ?_, fun b r hr => by rw [henv b r hr]; exact hg, by omega⟩
  · have hx : (Tr.leaf.set 0 (ABlk.cells (2 * t) as)).get b = some x := hx
    rw [hget] at hx
    split at hx
    · rename_i h0
      subst h0
      cases hx
      exact cells_br hk (two_half t) rfl hv _
    · cases hx
  · have hx : (Tr.leaf.set 0 (ABlk.cells (2 * t) as)).get b = some x := hx
    have hx' : (Tr.leaf.set 0 (ABlk.cells (2 * t) as)).get b' = some x' := hx'
    rw [hget] at hx hx'
    split at hx <;> split at hx' <;> simp_all
  · show (Tr.leaf.set 0 (ABlk.cells (2 * t) as)).get b = none
    have hb : 2 ≤ b := hb
    rw [hget, if_neg (by omega)]
  · have hb : 2 ≤ b := hb
    unfold env1
    rw [if_neg (by omega), if_neg (by omega)]
theorem Kn.more {k : Nat} (h : Kn ρ s base w) (hk : w.heap[g]? = some (.cells cs t (0, 0))) (hkt : k / 2 = t) (hg : base ≤ g) (hne : ∀ b r, ρ b = some r → r.blk ≠ g) (hv : VRL ρ as cs.toList) :
    Kn (ρ.add s.n ⟨g, 0, cs.size⟩) (s.new (.cells k as)) base w := by
  have hle := Env.add_le (ρ := ρ) (r := ⟨g, 0, cs.size⟩) (h.off s.n (Nat.le_refl _))
  have hlt : g < w.heap.size := lt_of_some hk
  refine ⟨⟨fun b x hx hT => ?_, fun b b' r r' x x' hx hx' hl hl' _ _ hr hr' hrr => ?_, fun b r hr => ?_⟩, fun b hb => ?_, fun b hb => ?_, fun b r hr => ?_, h.le⟩
  · rw [get_new] at hx
    by_cases hb : b = s.n
    · subst hb
      rw [if_pos rfl] at hx
      cases hx
      exact cells_br hk hkt (Env.add_self _ _) (hv.mono hle) _
    · rw [if_neg hb] at hx
      have hbs := lt_wf h.wf hx
      exact (h.good.sat b x hx ⟨0, hbs⟩).mono hle (fun _ _ => hbs) (fun _ _ => rfl)
  · rw [get_new] at hx hx'
    by_cases hb : b = s.n
    · by_cases hb' : b' = s.n
      · rw [hb, hb']
      · subst hb
        rw [Env.add_self] at hr
        rw [Env.add_ne _ hb'] at hr'
        cases hr
        exact absurd hrr.symm (hne _ _ hr')
    · by_cases hb' : b' = s.n
      · subst hb'
        rw [Env.add_self] at hr'
        rw [Env.add_ne _ hb] at hr
        cases hr'
        exact absurd hrr (hne _ _ hr)
      · rw [if_neg hb] at hx
        rw [if_neg hb'] at hx'
        rw [Env.add_ne _ hb] at hr
        rw [Env.add_ne _ hb'] at hr'
        exact h.good.inj b b' r r' x x' hx hx' hl hl' ⟨0, lt_wf h.wf hx⟩ ⟨0, lt_wf h.wf hx'⟩ hr hr' hrr
  · by_cases hb : b = s.n
    · subst hb
      rw [Env.add_self] at hr
      cases hr
      exact hlt
    · rw [Env.add_ne _ hb] at hr
      exact h.good.old b r hr
  · have hb : s.n + 1 ≤ b := hb
    rw [get_new, if_neg (by omega)]
    exact h.wf b (by omega)
  · have hb : s.n + 1 ≤ b := hb
    rw [Env.add_ne _ (by omega)]
    exact h.off b (by omega)
  · by_cases hb : b = s.n
    · subst hb
      rw [Env.add_self] at hr
      cases hr
      exact hg
    · rw [Env.add_ne _ hb] at hr
      exact h.ge b r hr
theorem call_at {O : Told} {f : FuncId} {args : List AV} {v : AV} (hP : plainFuncs P = true) (hm : P.follows .mixedOrders = true) (hO : TSound P O) (fuel d : Nat)
    (h : call P O (dcall P fuel) fuel d f args s = some (.ret v, s')) (hk : Kn ρ s base w) (vs : Array Value) (hv : VRL ρ args vs.toList) :
    Calls P f vs w (fun e w' => ∃ ρ' v', e = .returned v' ∧ VR ρ' v v' ∧ ρ.le ρ' ∧ Kn ρ' s' base w' ∧ Below base w w' ∧
      (∀ B, B < w.heap.size → (∀ b r, ρ b = some r → r.blk ≠ B) → w'.heap[B]? = w.heap[B]?) ∧ ∀ b r, ρ' b = some r → (∃ b2 r2, ρ b2 = some r2 ∧ r2.blk = r.blk) ∨ w.heap.size ≤ r.blk) := by
  obtain ⟨hmo, k⟩ := call_ok hP hm hO (dsound hP hm fuel) fuel d f args _ _ _ h hk.wf
  have hp : Pre ρ (fun b _ => b < s.n) s s' w := ⟨hk.good, fun e he hb b i hat => by rw [← at_blk hat]; exact hb, fun b h1 _ => hk.off b h1, hk.wf, fun b i h => h⟩
  obtain ⟨_, hc⟩ := k _ _ w vs hp hv
  refine (callsIn_wide.1 (hc 0)).mono ?_
  rintro e w' ⟨ρ', hpost, hres⟩
  cases e with
  | panicked ch => exact hres.elim
  | outgrown => exact hres.elim
  | returned v' =>
    have hu := hpost.unch
    have hwh : ∀ b r, ρ' b = some r → (∃ b2 r2, ρ b2 = some r2 ∧ r2.blk = r.blk) ∨ w.heap.size ≤ r.blk := fun b r hr => by
      cases hb : ρ b with
      | some q =>
        have := hpost.ext b q hb
        rw [hr] at this
        cases this
        exact .inl ⟨b, _, hb, rfl⟩
      | none =>
        rcases Nat.lt_or_ge r.blk w.heap.size with h1 | h1
        · obtain ⟨b2, r2, h2, h3, h4⟩ := hpost.fr b r hb hr h1
          exact .inl ⟨b2, r2, h3, h4⟩
        · exact .inr h1
    have hge : ∀ b r, ρ' b = some r → base ≤ r.blk := fun b r hr => by
      rcases hwh b r hr with ⟨b2, r2, h3, h4⟩ | h1
      · rw [← h4]
        exact hk.ge b2 r2 h3
      · exact Nat.le_trans hk.le h1
    have hn := hmo.n
    refine ⟨ρ', v', rfl, hres, hpost.ext, ⟨?_, hmo.wf hk.wf, fun b hb => ?_, hge, Nat.le_trans hk.le hu.size⟩, ⟨hu.os, hu.tape, hu.output, hu.size, fun B hB => hu.block B (Nat.lt_of_lt_of_le hB hk.le) (fun o ⟨e, he, r, h1, h2, _⟩ => by have := hk.ge _ r h1; omega)⟩, fun B hB hn => hu.block B hB (fun o ⟨e, he, r, h1, h2, _⟩ => hn _ r h1 h2), hwh⟩
    · have e : Tn (fun b _ => b < s.n) s.n s'.n = fun b _ => b < s'.n := by
        funext b i
        simp only [Tn, eq_iff_iff]
        omega
      have := hpost.good
      rw [e] at this
      exact this
    · cases hb2 : ρ' b with
      | none => rfl
      | some r =>
        rcases hpost.new b r hb2 with h1 | ⟨_, h2⟩
        · rw [hk.off b (by omega)] at h1; cases h1
        · omega
def stOf (x : Option (Res × St)) : St := match x with
  | some (_, s) => s
  | none => ⟨.leaf, 0, []⟩
def isUnit (x : Option (Res × St)) : Bool := match x with
  | some (.ret (.tuple []), _) => true
  | _ => false
theorem of_isUnit {x : Option (Res × St)} (h : isUnit x = true) : x = some (.ret (.tuple []), stOf x) := by
  unfold isUnit at h
  split at h
  · rfl
  · cases h
theorem of_ansTrue {x : Option (Res × St)} (h : ansTrue x = true) : ∃ s, x = some (.ret (.bool true), s) := by
  unfold ansTrue at h
  split at h
  · exact ⟨_, rfl⟩
  · cases h
end
end Go.Proofs.YtmabpnmnppfgaaaGreatDoor.Rk
