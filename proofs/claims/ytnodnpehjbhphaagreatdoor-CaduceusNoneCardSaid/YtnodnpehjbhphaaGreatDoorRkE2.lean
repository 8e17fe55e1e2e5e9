/- What the reckoner's values and blocks say of the model's. Definitions and plain lemmas. -/
import Derived.Test.YtnodnpehjbhphaaGreatDoorRkE1
import Derived.CallsIn
import Derived.Laws.Rows
namespace Go.Proofs.YtnodnpehjbhphaaGreatDoor.Rk
open Go
set_option linter.unusedVariables false
-- ## the tree
theorem Tr.get_leaf {α : Type} (k : Nat) : (Tr.leaf : Tr α).get k = none := rfl
theorem Tr.get_node {α : Type} (l r : Tr α) (v : Option α) (k : Nat) : (Tr.node l v r).get k = if k = 0 then v else if k % 2 = 1 then l.get (k / 2) else r.get (k / 2 - 1) := rfl
theorem Tr.get_setF {α : Type} (v : α) : ∀ (f : Nat) (t : Tr α) (k j : Nat), k + 1 < 2 ^ f → (Tr.setF f t k v).get j = if j = k then some v else t.get j
  | 0, t, k, j, h => by simp at h
  | f + 1, t, k, j, h => by
    rw [Nat.pow_succ] at h
    have ho : k % 2 = 1 → k ≠ 0 → k / 2 + 1 < 2 ^ f := by omega
    have he : k % 2 ≠ 1 → k ≠ 0 → k / 2 - 1 + 1 < 2 ^ f := by omega
    cases t with
    | leaf =>
      unfold Tr.setF
      by_cases h0 : k = 0
      · subst h0
        simp only [if_true, Tr.get_node, Tr.get_leaf]
        by_cases hj : j = 0
        · simp [hj]
        · simp [hj]
      · by_cases h1 : k % 2 = 1
        · simp only [if_neg h0, if_pos h1, Tr.get_node, Tr.get_leaf]
          rw [Tr.get_setF v f _ _ _ (ho h1 h0)]
          by_cases hj0 : j = 0
          · subst hj0; simp [Ne.symm h0]
          · by_cases hj1 : j % 2 = 1
            · simp only [if_neg hj0, if_pos hj1, Tr.get_leaf]
              by_cases hjk : j = k
              · subst hjk; simp
              · rw [if_neg hjk, if_neg (by omega)]
            · simp only [if_neg hj0, if_neg hj1]
              rw [if_neg (by intro e; subst e; exact hj1 h1)]
        · simp only [if_neg h0, if_neg h1, Tr.get_node, Tr.get_leaf]
          rw [Tr.get_setF v f _ _ _ (he h1 h0)]
          by_cases hj0 : j = 0
          · subst hj0; simp [Ne.symm h0]
          · by_cases hj1 : j % 2 = 1
            · simp only [if_neg hj0, if_pos hj1]
              rw [if_neg (by intro e; subst e; exact h1 hj1)]
            · simp only [if_neg hj0, if_neg hj1, Tr.get_leaf]
              by_cases hjk : j = k
              · subst hjk; simp
              · rw [if_neg hjk, if_neg (by omega)]
    | node l u r =>
      unfold Tr.setF
      by_cases h0 : k = 0
      · subst h0
        simp only [if_true, Tr.get_node]
        by_cases hj : j = 0
        · simp [hj]
        · simp [hj]
      · by_cases h1 : k % 2 = 1
        · simp only [if_neg h0, if_pos h1, Tr.get_node]
          rw [Tr.get_setF v f _ _ _ (ho h1 h0)]
          by_cases hj0 : j = 0
          · subst hj0; simp [Ne.symm h0]
          · by_cases hj1 : j % 2 = 1
            · simp only [if_neg hj0, if_pos hj1]
              by_cases hjk : j = k
              · subst hjk; simp
              · rw [if_neg hjk, if_neg (by omega)]
            · simp only [if_neg hj0, if_neg hj1]
              rw [if_neg (by intro e; subst e; exact hj1 h1)]
        · simp only [if_neg h0, if_neg h1, Tr.get_node]
          rw [Tr.get_setF v f _ _ _ (he h1 h0)]
          by_cases hj0 : j = 0
          · subst hj0; simp [Ne.symm h0]
          · by_cases hj1 : j % 2 = 1
            · simp only [if_neg hj0, if_pos hj1]
              rw [if_neg (by intro e; subst e; exact h1 hj1)]
            · simp only [if_neg hj0, if_neg hj1]
              by_cases hjk : j = k
              · subst hjk; simp
              · rw [if_neg hjk, if_neg (by omega)]
theorem Tr.get_set {α : Type} (v : α) (t : Tr α) (k j : Nat) : (t.set k v).get j = if j = k then some v else t.get j := by
  refine Tr.get_setF v _ t k j ?_
  have h := Nat.lt_log2_self (n := k)
  rw [Nat.pow_succ]
  omega
-- ## where blocks lie
/-- A block of the reckoner's lies in a block of the model's, from base on, n cells. -/
structure RB where
  blk : Nat
  base : Nat
  n : Nat
abbrev Env := Nat → Option RB
def RB.at (r : RB) (off : Nat) : Addr := ⟨r.blk, r.base + off, none⟩
mutual
inductive VR (ρ : Env) : AV → Value → Prop
  | top (v : Value) : VR ρ .top v
  | bool (b : Bool) : VR ρ (.bool b) (.bool b)
  | int (k : IntKind) (n : Int) : VR ρ (.int k n) (.int k n)
  | str (l : List Nat) (h : ∀ x ∈ l, x < 256) : VR ρ (.str l) (.string ⟨(l.map UInt8.ofNat).toArray⟩)
  | ptr (b off : Nat) (r : RB) (h : ρ b = some r) : VR ρ (.ptr b off) (.pointer (some (r.at off)))
  | nilp : VR ρ .nilp (.pointer none)
  | slice (b off len mc es : Nat) (r : RB) (ad : Addr) (cap : Nat) (h : ρ b = some r) (h1 : len ≤ mc) (h2 : mc ≤ cap) (h3 : cap = 0 ∨ ad = r.at off ∧ off + cap * es ≤ r.n) : VR ρ (.slice b off len mc es) (.slice (some ad) len cap)
  | nils : VR ρ .nils (.slice none 0 0)
  | map (b : Nat) (r : RB) (h : ρ b = some r) : VR ρ (.map b) (.map (some r.blk))
  | nilm : VR ρ .nilm (.map none)
  | func (f : FuncId) (k l : List AV) (k' l' : Array Value) (h1 : VRL ρ k k'.toList) (h2 : VRL ρ l l'.toList) : VR ρ (.func f k l) (.func (.func f) k' l')
  | nilf : VR ρ .nilf .nilFunc
  | iface (t : TypeId) (a : AV) (v : Value) (h : VR ρ a v) : VR ρ (.iface t a) (.iface t v)
  | nili : VR ρ .nili .nilIface
  | agg (cs : List AV) (cs' : Array Value) (h : VRL ρ cs cs'.toList) : VR ρ (.agg cs) (.agg cs')
  | tuple (cs : List AV) (cs' : Array Value) (h : VRL ρ cs cs'.toList) : VR ρ (.tuple cs) (.tuple cs')
  | yield (b : Nat) (r : RB) (h : ρ b = some r) : VR ρ (.yield b) (.func (.yield r.blk) #[] #[])
inductive VRL (ρ : Env) : List AV → List Value → Prop
  | nil : VRL ρ [] []
  | cons (a : AV) (v : Value) (l : List AV) (vs : List Value) (h : VR ρ a v) (t : VRL ρ l vs) : VRL ρ (a :: l) (v :: vs)
end
def Env.le (ρ ρ' : Env) : Prop := ∀ b r, ρ b = some r → ρ' b = some r
theorem Env.le_refl (ρ : Env) : ρ.le ρ := fun _ _ h => h
theorem Env.le_trans {ρ ρ' ρ'' : Env} (h : ρ.le ρ') (k : ρ'.le ρ'') : ρ.le ρ'' := fun b r hb => k b r (h b r hb)
mutual
theorem VR.mono {ρ ρ' : Env} (hr : ρ.le ρ') : ∀ {a : AV} {v : Value}, VR ρ a v → VR ρ' a v
  | _, _, .top v => .top v
  | _, _, .bool b => .bool b
  | _, _, .int k n => .int k n
  | _, _, .str l h => .str l h
  | _, _, .ptr b off r h => .ptr b off r (hr b r h)
  | _, _, .nilp => .nilp
  | _, _, .slice b off len mc es r ad cap h h1 h2 h3 => .slice b off len mc es r ad cap (hr b r h) h1 h2 h3
  | _, _, .nils => .nils
  | _, _, .map b r h => .map b r (hr b r h)
  | _, _, .nilm => .nilm
  | _, _, .func f k l k' l' h1 h2 => .func f k l k' l' (VRL.mono hr h1) (VRL.mono hr h2)
  | _, _, .nilf => .nilf
  | _, _, .iface t a v h => .iface t a v (VR.mono hr h)
  | _, _, .nili => .nili
  | _, _, .agg cs cs' h => .agg cs cs' (VRL.mono hr h)
  | _, _, .tuple cs cs' h => .tuple cs cs' (VRL.mono hr h)
  | _, _, .yield b r h => .yield b r (hr b r h)
theorem VRL.mono {ρ ρ' : Env} (hr : ρ.le ρ') : ∀ {l : List AV} {vs : List Value}, VRL ρ l vs → VRL ρ' l vs
  | _, _, .nil => .nil
  | _, _, .cons a v l vs h t => .cons a v l vs (VR.mono hr h) (VRL.mono hr t)
end
section
variable {ρ : Env}
theorem VRL.length : ∀ {l : List AV} {vs : List Value}, VRL ρ l vs → vs.length = l.length
  | _, _, .nil => rfl
  | _, _, .cons a v l vs h t => by simp [VRL.length t]
theorem VRL.get : ∀ {l : List AV} {vs : List Value} (i : Nat) {a : AV}, VRL ρ l vs → l[i]? = some a → ∃ v, vs[i]? = some v ∧ VR ρ a v
  | _, _, i, _, .nil, h => by simp at h
  | _, _, 0, _, .cons a v l vs hv t, h => by simp at h; subst h; exact ⟨v, rfl, hv⟩
  | _, _, i + 1, _, .cons a v l vs hv t, h => by simp at h; simpa using VRL.get i t h
theorem VRL.of_get : ∀ {l : List AV} {vs : List Value}, vs.length = l.length → (∀ (i : Nat) (a : AV) (v : Value), l[i]? = some a → vs[i]? = some v → VR ρ a v) → VRL ρ l vs
  | [], [], _, _ => .nil
  | a :: l, v :: vs, hl, h => .cons a v l vs (h 0 a v rfl rfl) (VRL.of_get (by simpa using hl) (fun i a v h1 h2 => h (i + 1) a v (by simpa using h1) (by simpa using h2)))
  | [], _ :: _, hl, _ => by simp at hl
  | _ :: _, [], hl, _ => by simp at hl
theorem VRL.append : ∀ {l k : List AV} {vs us : List Value}, VRL ρ l vs → VRL ρ k us → VRL ρ (l ++ k) (vs ++ us)
  | _, _, _, _, .nil, h => h
  | _, _, _, _, .cons a v l vs hv t, h => .cons a v _ _ hv (VRL.append t h)
theorem VRL.drop : ∀ (n : Nat) {l : List AV} {vs : List Value}, VRL ρ l vs → VRL ρ (l.drop n) (vs.drop n)
  | 0, _, _, h => h
  | n + 1, _, _, .nil => .nil
  | n + 1, _, _, .cons a v l vs hv t => by simpa using VRL.drop n t
theorem VRL.take : ∀ (n : Nat) {l : List AV} {vs : List Value}, VRL ρ l vs → VRL ρ (l.take n) (vs.take n)
  | 0, _, _, h => .nil
  | n + 1, _, _, .nil => .nil
  | n + 1, _, _, .cons a v l vs hv t => by simpa using VRL.cons a v _ _ hv (VRL.take n t)
theorem VRL.map {α : Type} (f : α → AV) (g : α → Value) : ∀ (l : List α), (∀ x ∈ l, VR ρ (f x) (g x)) → VRL ρ (l.map f) (l.map g)
  | [], _ => .nil
  | x :: l, h => .cons _ _ _ _ (h x (by simp)) (VRL.map f g l (fun y hy => h y (by simp [hy])))
theorem VRL.one {a : AV} {v : Value} (h : VR ρ a v) : VRL ρ [a] [v] := .cons _ _ _ _ h .nil
theorem mem_lt (s : ByteArray) : ∀ x ∈ bytesOf s, x < 256 := by
  intro x hx
  simp only [bytesOf, List.mem_map] at hx
  obtain ⟨u, _, rfl⟩ := hx
  exact u.toNat_lt
theorem bytes_back (s : ByteArray) : (⟨((bytesOf s).map UInt8.ofNat).toArray⟩ : ByteArray) = s := by
  have : (bytesOf s).map UInt8.ofNat = s.data.toList := by
    unfold bytesOf
    rw [List.map_map]
    have : UInt8.ofNat ∘ UInt8.toNat = id := by funext b; simp
    rw [this, List.map_id]
  rw [this]
theorem VR.string (s : ByteArray) : VR ρ (.str (bytesOf s)) (.string s) := by
  have h := VR.str (ρ := ρ) (bytesOf s) (mem_lt s)
  rwa [bytes_back] at h
theorem ofV_ok : ∀ (n : Nat) (v : Value), VR ρ (ofV n v) v := by
  intro n
  induction n with
  | zero =>
    intro v
    cases v with
    | bool b => exact .bool b
    | int k m => exact .int k m
    | string s => exact VR.string s
    | pointer a => cases a with
      | none => exact .nilp
      | some a => exact .top _
    | slice a l c => unfold ofV; split <;> simp_all <;> first | exact .nils | exact .top _
    | map r => cases r with
      | none => exact .nilm
      | some a => exact .top _
    | nilFunc => exact .nilf
    | nilIface => exact .nili
    | _ => exact .top _
  | succ n ih =>
    intro v
    cases v with
    | bool b => exact .bool b
    | int k m => exact .int k m
    | string s => exact VR.string s
    | pointer a => cases a with
      | none => exact .nilp
      | some a => exact .top _
    | slice a l c => unfold ofV; split <;> simp_all <;> first | exact .nils | exact .top _
    | map r => cases r with
      | none => exact .nilm
      | some a => exact .top _
    | nilFunc => exact .nilf
    | nilIface => exact .nili
    | agg cs =>
      refine .agg _ _ ?_
      have h := VRL.map (ρ := ρ) (ofV n) id cs.toList (fun x _ => ih x)
      simpa using h
    | tuple cs =>
      refine .tuple _ _ ?_
      have h := VRL.map (ρ := ρ) (ofV n) id cs.toList (fun x _ => ih x)
      simpa using h
    | _ => exact .top _
/-- The cells of a value. -/
theorem cells_ok {a : AV} {v : Value} {cs : List AV} (h : VR ρ a v) (hc : cellsA a = some cs) : VRL ρ cs v.cells.toList := by
  cases h <;> simp [cellsA] at hc <;> subst hc <;> first | assumption | (refine VRL.one ?_; constructor <;> assumption) | (exact VRL.one (by assumption))
theorem one_ok {a : AV} {v : Value} (h : VR ρ a v) (ho : one a = true) : v.oneCell' = true := by
  cases h <;> simp [one] at ho <;> rfl
end
-- ## worlds
def LE.at (e : LE) (b i : Nat) : Prop := match e with
  | .rd c j n | .wr c j n => c = b ∧ j ≤ i ∧ i < j + n
  | .all c => c = b
def Cov (T : Nat → Nat → Prop) (e : LE) : Prop := ∀ b i, e.at b i → T b i
/-- A block holds the cells that are known, of it; at an odd number nothing but them. -/
def Fits (t : Nat) (r : RB) (n : Nat) : Prop := n ≤ r.n ∧ (t % 2 = 1 → r.base = 0 ∧ r.n = n)
theorem Fits.even (t : Nat) {r : RB} {n : Nat} (h : n ≤ r.n) : Fits (2 * t) r n := ⟨h, fun h => by omega⟩
theorem two_half (t : Nat) : 2 * t / 2 = t := by omega
theorem two_half1 (t : Nat) : (2 * t + 1) / 2 = t := by omega
def live : ABlk → Prop
  | .dead => False
  | _ => True
def loopState (ready : Bool) (p : Option Code) : LoopState := if ready then .ready else if p.isNone then .busy else .done
/-- What a block of the reckoner's says of the model's world; of its cells those in T. -/
def BR (ρ : Env) (T : Nat → Prop) (b : Nat) (w : World) : ABlk → Prop
  | .cells t cs => ∃ r c fr, ρ b = some r ∧ w.heap[r.blk]? = some (.cells c (t / 2) fr) ∧ c.size = r.base + r.n ∧ Fits t r cs.length ∧ (∀ o, r.base ≤ o → o < c.size → (decide (fr.1 ≤ o) && decide (o < fr.2)) = false) ∧ ∀ i a, cs[i]? = some a → T i → ∃ v, c[r.base + i]? = some v ∧ VR ρ a v
  | .map es clock => ∃ r es', ρ b = some r ∧ w.heap[r.blk]? = some (.map es' clock) ∧ (VRL ρ (es.map (·.k)) (es'.toList.map (·.key)) ∧ VRL ρ (es.map (·.v)) (es'.toList.map (·.val)) ∧ es.map (·.born) = es'.toList.map (·.born))
  | .miter m since seen last => ∃ r m', ρ b = some r ∧ r.base = 0 ∧ w.heap[r.blk]? = some (.mapIter m' since seen.toArray last) ∧ (match m with | none => m' = none | some m => ∃ q, ρ m = some q ∧ m' = some q.blk)
  | .defd => ∃ r, ρ b = some r ∧ w.heap[r.blk]? = some (.deferred (some []))
  | .loop ready p sz tmps ps assign body d => ∃ r fn tmps' q, ρ b = some r ∧ ρ d = some q ∧ w.heap[r.blk]? = some (.loop { state := loopState ready p, pending := p, fn := fn, tmps := tmps', params := ps.toArray, assign := assign, body := body, defers := q.blk }) ∧ tmps'.size = sz ∧ ∀ t, VR ρ ((tmps.get t).getD (.tuple [])) (tmps'.getD t undef)
  | .dead => True
def Wrt (ρ : Env) (log : List LE) (B o : Nat) : Prop := ∃ e ∈ log, ∃ r, ρ e.blk = some r ∧ r.blk = B ∧ (match e with | .rd _ _ _ => False | .wr _ i n => r.base + i ≤ o ∧ o < r.base + i + n | .all _ => True)
def All (ρ : Env) (log : List LE) (B : Nat) : Prop := ∃ b r, LE.all b ∈ log ∧ ρ b = some r ∧ r.blk = B
structure Unch (ρ : Env) (log : List LE) (w w' : World) : Prop where
  os : w'.os = w.os
  tape : w'.tape = w.tape
  output : w'.output = w.output
  size : w.heap.size ≤ w'.heap.size
  block : ∀ B, B < w.heap.size → (∀ o, ¬ Wrt ρ log B o) → w'.heap[B]? = w.heap[B]?
  cells : ∀ B c t fr, w.heap[B]? = some (.cells c t fr) → ¬ All ρ log B → ∃ c', w'.heap[B]? = some (.cells c' t fr) ∧ c'.size = c.size ∧ ∀ o, ¬ Wrt ρ log B o → c'[o]? = c[o]?
/-- The model's world is as the reckoner's blocks say, in T. -/
structure Good (ρ : Env) (T : Nat → Nat → Prop) (h : Nat → Option ABlk) (w : World) : Prop where
  sat : ∀ b x, h b = some x → (∃ i, T b i) → BR ρ (T b) b w x
  inj : ∀ b b' r r' x x', h b = some x → h b' = some x' → live x → live x' → (∃ i, T b i) → (∃ i, T b' i) → ρ b = some r → ρ b' = some r' → r.blk = r'.blk → b = b'
  old : ∀ b r, ρ b = some r → r.blk < w.heap.size
def WfS (s : St) : Prop := ∀ b, s.n ≤ b → s.heap.get b = none
def LE.wrote (e : LE) (b i : Nat) : Prop := match e with
  | .wr c j n => c = b ∧ j ≤ i ∧ i < j + n
  | _ => False
/-- A block that is not changed whole: of its cells those that are not written stay. -/
def Keep (log : List LE) (b : Nat) : ABlk → Option ABlk → Prop
  | .cells t cs, y => ∃ cs', y = some (.cells t cs') ∧ cs'.length = cs.length ∧ ∀ i, (∀ e ∈ log, ¬ e.wrote b i) → cs'[i]? = cs[i]?
  | x, y => y = some x
theorem Keep.refl (log : List LE) (b : Nat) (x : ABlk) : Keep log b x (some x) := by
  cases x <;> first | rfl | exact ⟨_, rfl, rfl, fun _ _ => rfl⟩
theorem Keep.mono {l l' : List LE} (hl : ∀ e ∈ l, e ∈ l') {b : Nat} {x : ABlk} {y : Option ABlk} (h : Keep l b x y) : Keep l' b x y := by
  cases x with
  | cells t cs => obtain ⟨cs', h1, h2, h3⟩ := h; exact ⟨cs', h1, h2, fun i hi => h3 i (fun e he => hi e (hl e he))⟩
  | _ => exact h
theorem Keep.trans {l l' : List LE} (hl : ∀ e ∈ l, e ∈ l') {b : Nat} {x y : ABlk} {z : Option ABlk} (h : Keep l b x (some y)) (k : Keep l' b y z) : Keep l' b x z := by
  cases x with
  | cells t cs =>
    obtain ⟨cs', h1, h2, h3⟩ := h
    cases h1
    obtain ⟨cs2, k1, k2, k3⟩ := k
    exact ⟨cs2, k1, k2.trans h2, fun i hi => (k3 i hi).trans (h3 i (fun e he => hi e (hl e he)))⟩
  | _ => cases h; exact k
theorem Keep.some {l : List LE} {b : Nat} {x : ABlk} {y : Option ABlk} (h : Keep l b x y) : ∃ z, y = some z := by
  cases x with
  | cells t cs => obtain ⟨cs', h1, _⟩ := h; exact ⟨_, h1⟩
  | _ => exact ⟨_, h⟩
structure Mono (s s' : St) : Prop where
  n : s.n ≤ s'.n
  log : ∀ e ∈ s.log, e ∈ s'.log
  wf : WfS s → WfS s'
  keep : WfS s → ∀ b x, s.heap.get b = some x → LE.all b ∉ s'.log → Keep s'.log b x (s'.heap.get b)
  lv : WfS s → ∀ b x', b < s.n → s'.heap.get b = some x' → live x' → ∃ x, s.heap.get b = some x ∧ live x
  lw : WfS s → ∀ e ∈ s'.log, e ∈ s.log ∨ s.n ≤ e.blk ∨ ∃ x, s.heap.get e.blk = some x ∧ live x
  lb : WfS s → (∀ e ∈ s.log, e.blk < s.n) → ∀ e ∈ s'.log, e.blk < s'.n
theorem Mono.refl (s : St) : Mono s s := ⟨Nat.le_refl _, fun _ h => h, fun h => h, fun _ b x h _ => by rw [h]; exact Keep.refl _ _ _, fun _ _ x' _ h hl => ⟨x', h, hl⟩, fun _ _ h => .inl h, fun _ h => h⟩
theorem Mono.trans {a b c : St} (h : Mono a b) (k : Mono b c) : Mono a c := ⟨Nat.le_trans h.n k.n, fun e he => k.log e (h.log e he), fun hw => k.wf (h.wf hw), fun hw i x hx hn => by
  have h1 := h.keep hw i x hx (fun hm => hn (k.log _ hm))
  obtain ⟨z, hz⟩ := h1.some
  rw [hz] at h1
  exact h1.trans k.log (k.keep (h.wf hw) i z hz hn), fun hw i x' hi hx hl => by
  obtain ⟨y, hy, hyl⟩ := k.lv (h.wf hw) i x' (Nat.lt_of_lt_of_le hi h.n) hx hl
  exact h.lv hw i y hi hy hyl, fun hw e he => by
  rcases k.lw (h.wf hw) e he with h1 | h1 | ⟨x, h1, h2⟩
  · exact h.lw hw e h1
  · exact .inr (.inl (Nat.le_trans h.n h1))
  · by_cases hb : e.blk < a.n
    · exact .inr (.inr (h.lv hw _ x hb h1 h2))
    · exact .inr (.inl (Nat.not_lt.1 hb)), fun hw hl => k.lb (h.wf hw) (h.lb hw hl)⟩
/-- What is looked into behind: what was, and what was made. -/
def Tn (T : Nat → Nat → Prop) (n n' : Nat) : Nat → Nat → Prop := fun b i => T b i ∨ n ≤ b ∧ b < n'
structure Pre (ρ : Env) (T : Nat → Nat → Prop) (s s' : St) (w : World) : Prop where
  good : Good ρ T s.heap.get w
  cov : ∀ e ∈ s'.log, e.blk < s.n → Cov T e
  fresh : ∀ b, s.n ≤ b → b < s'.n → ρ b = none
  wf : WfS s
  tn : ∀ b i, T b i → b < s.n
structure Post (ρ : Env) (T : Nat → Nat → Prop) (s : St) (w : World) (ρ' : Env) (s' : St) (w' : World) : Prop where
  ext : ρ.le ρ'
  new : ∀ b r, ρ' b = some r → ρ b = some r ∨ s.n ≤ b ∧ b < s'.n
  fr : ∀ b r, ρ b = none → ρ' b = some r → r.blk < w.heap.size → All ρ s'.log r.blk
  good : Good ρ' (Tn T s.n s'.n) s'.heap.get w'
  unch : Unch ρ s'.log w w'
theorem Unch.refl (ρ : Env) (log : List LE) (w w' : World) (ho : w'.os = w.os) (ht : w'.tape = w.tape) (hp : w'.output = w.output) (hh : w'.heap = w.heap) : Unch ρ log w w' :=
  ⟨ho, ht, hp, by rw [hh]; exact Nat.le_refl _, fun _ _ _ => by rw [hh], fun B c t fr h _ => ⟨c, by rw [hh]; exact h, rfl, fun _ _ => rfl⟩⟩
theorem Wrt.mono {ρ ρ' : Env} {l l' : List LE} {B o : Nat} (h : Wrt ρ l B o) (hr : ρ.le ρ') (hl : ∀ e ∈ l, e ∈ l') : Wrt ρ' l' B o := by
  obtain ⟨e, he, r, h1, h2, h3⟩ := h
  exact ⟨e, hl e he, r, hr _ _ h1, h2, h3⟩
theorem All.mono {ρ ρ' : Env} {l l' : List LE} {B : Nat} (h : All ρ l B) (hr : ρ.le ρ') (hl : ∀ e ∈ l, e ∈ l') : All ρ' l' B := by
  obtain ⟨b, r, h1, h2, h3⟩ := h
  exact ⟨b, r, hl _ h1, hr _ _ h2, h3⟩
theorem All.wrt {ρ : Env} {l : List LE} {B : Nat} (h : All ρ l B) (o : Nat) : Wrt ρ l B o := by
  obtain ⟨b, r, h1, h2, h3⟩ := h
  exact ⟨.all b, h1, r, h2, h3, trivial⟩
theorem Wrt.back {ρ ρ1 : Env} {l l1 : List LE} {w : World} {B o : Nat} (hB : B < w.heap.size) (hl : ∀ e ∈ l, e ∈ l1) (hext : ρ.le ρ1)
    (hfr : ∀ b r, ρ b = none → ρ1 b = some r → r.blk < w.heap.size → All ρ l r.blk) (h : Wrt ρ1 l1 B o) : Wrt ρ l1 B o := by
  obtain ⟨e, he, r, h1, h2, h3⟩ := h
  cases hb : ρ e.blk with
  | none =>
    have := hfr _ r hb h1 (by omega)
    rw [h2] at this
    exact (this.mono (Env.le_refl ρ) hl).wrt o
  | some r0 =>
    have : r0 = r := Option.some.inj ((hext _ _ hb).symm.trans h1)
    subst this
    exact ⟨e, he, r0, hb, h2, h3⟩
theorem All.back {ρ ρ1 : Env} {l l1 : List LE} {w : World} {B : Nat} (hB : B < w.heap.size) (hl : ∀ e ∈ l, e ∈ l1) (hext : ρ.le ρ1)
    (hfr : ∀ b r, ρ b = none → ρ1 b = some r → r.blk < w.heap.size → All ρ l r.blk) (h : All ρ1 l1 B) : All ρ l1 B := by
  obtain ⟨b, r, h1, h2, h3⟩ := h
  cases hb : ρ b with
  | none =>
    have := hfr _ r hb h2 (by omega)
    rw [h3] at this
    exact this.mono (Env.le_refl ρ) hl
  | some r0 =>
    have : r0 = r := Option.some.inj ((hext _ _ hb).symm.trans h2)
    subst this
    exact ⟨b, r0, h1, hb, h3⟩
theorem lt_of_some {w : World} {B : Nat} {o : Obj} (h : w.heap[B]? = some o) : B < w.heap.size := (Array.getElem?_eq_some_iff.1 h).1
theorem Unch.trans {ρ ρ1 : Env} {l l1 : List LE} {w w1 w2 : World} (h : Unch ρ l w w1) (k : Unch ρ1 l1 w1 w2) (hl : ∀ e ∈ l, e ∈ l1) (hext : ρ.le ρ1)
    (hfr : ∀ b r, ρ b = none → ρ1 b = some r → r.blk < w.heap.size → All ρ l r.blk) : Unch ρ l1 w w2 := by
  refine ⟨k.os.trans h.os, k.tape.trans h.tape, k.output.trans h.output, Nat.le_trans h.size k.size, fun B hB hn => ?_, fun B c t fr hc hna => ?_⟩
  · rw [k.block B (Nat.lt_of_lt_of_le hB h.size) (fun o hw => hn o (hw.back hB hl hext hfr)), h.block B hB (fun o hw => hn o (hw.mono (Env.le_refl ρ) hl))]
  · have hB := lt_of_some hc
    obtain ⟨c1, h1, hs1, he1⟩ := h.cells B c t fr hc (fun ha => hna (ha.mono (Env.le_refl ρ) hl))
    obtain ⟨c2, h2, hs2, he2⟩ := k.cells B c1 t fr h1 (fun ha => hna (ha.back hB hl hext hfr))
    exact ⟨c2, h2, hs2.trans hs1, fun o ho => (he2 o (fun hw => ho (hw.back hB hl hext hfr))).trans (he1 o (fun hw => ho (hw.mono (Env.le_refl ρ) hl)))⟩
theorem Tn_trans {T : Nat → Nat → Prop} {a b c : Nat} (h1 : a ≤ b) (h2 : b ≤ c) : Tn (Tn T a b) b c = Tn T a c := by
  funext x i
  unfold Tn
  apply propext
  constructor
  · rintro ((h | h) | h)
    · exact .inl h
    · exact .inr ⟨h.1, by omega⟩
    · exact .inr ⟨by omega, h.2⟩
  · rintro (h | h)
    · exact .inl (.inl h)
    · by_cases hb : x < b
      · exact .inl (.inr ⟨h.1, hb⟩)
      · exact .inr ⟨by omega, h.2⟩
/-- Of two steps the first one's beginning. -/
theorem Pre.first {ρ : Env} {T : Nat → Nat → Prop} {s s1 s2 : St} {w : World} (h : Pre ρ T s s2 w) (m2 : Mono s1 s2) : Pre ρ T s s1 w :=
  ⟨h.good, fun e he hb => h.cov e (m2.log e he) hb, fun b h1 h2 => h.fresh b h1 (Nat.lt_of_lt_of_le h2 m2.n), h.wf, h.tn⟩
/-- Of two steps the second one's beginning. -/
theorem Pre.next {ρ ρ1 : Env} {T : Nat → Nat → Prop} {s s1 s2 : St} {w w1 : World} (h : Pre ρ T s s2 w) (m1 : Mono s s1) (m2 : Mono s1 s2) (k : Post ρ T s w ρ1 s1 w1) : Pre ρ1 (Tn T s.n s1.n) s1 s2 w1 :=
  ⟨k.good, fun e he hb => by
    intro b i hbi
    have hbb : e.blk = b := by cases e <;> first | exact hbi.1 | exact hbi
    by_cases hs : e.blk < s.n
    · exact .inl (h.cov e he hs b i hbi)
    · exact .inr ⟨by omega, by omega⟩, fun b h1 h2 => by
    cases hb : ρ1 b with
    | none => rfl
    | some r =>
      rcases k.new b r hb with h3 | h3
      · rw [h.fresh b (Nat.le_trans m1.n h1) h2] at h3; cases h3
      · omega, m1.wf h.wf, fun b i hb => by
    rcases hb with hb | hb
    · exact Nat.lt_of_lt_of_le (h.tn b i hb) m1.n
    · exact hb.2⟩
theorem Post.trans {ρ ρ1 ρ2 : Env} {T : Nat → Nat → Prop} {s s1 s2 : St} {w w1 w2 : World} (m1 : Mono s s1) (m2 : Mono s1 s2) (h : Post ρ T s w ρ1 s1 w1) (k : Post ρ1 (Tn T s.n s1.n) s1 w1 ρ2 s2 w2) : Post ρ T s w ρ2 s2 w2 :=
  ⟨Env.le_trans h.ext k.ext, fun b r hb => by
    rcases k.new b r hb with h3 | h3
    · rcases h.new b r h3 with h4 | h4
      · exact .inl h4
      · have := m2.n; exact .inr ⟨h4.1, by omega⟩
    · have := m1.n; exact .inr ⟨by omega, h3.2⟩, fun b r hb hr hlt => by
    cases h1 : ρ1 b with
    | some r1 =>
      have : r1 = r := Option.some.inj ((k.ext _ _ h1).symm.trans hr)
      subst this
      exact (h.fr b r1 hb h1 hlt).mono (Env.le_refl ρ) m2.log
    | none => exact (k.fr b r h1 hr (Nat.lt_of_lt_of_le hlt h.unch.size)).back hlt m2.log h.ext (fun b r h1 h2 h3 => h.fr b r h1 h2 h3), by
    have := k.good
    rwa [Tn_trans m1.n m2.n] at this, h.unch.trans k.unch m2.log h.ext (fun b r h1 h2 h3 => h.fr b r h1 h2 h3)⟩
end Go.Proofs.YtnodnpehjbhphaaGreatDoor.Rk
