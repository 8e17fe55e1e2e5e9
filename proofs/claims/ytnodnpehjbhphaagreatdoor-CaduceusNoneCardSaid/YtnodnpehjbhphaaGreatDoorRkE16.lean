/- A region that draws its order, reckoned in the order of the text. Plain lemmas. -/
import Derived.Test.YtnodnpehjbhphaaGreatDoorRkE15
namespace Go.Proofs.YtnodnpehjbhphaaGreatDoor.Rk
open Go
set_option linter.unusedVariables false
-- ## what waits for what
def waitF (acc : List Nat) (o : Oper) : Nat := o.after.toList.foldl (fun s e => if Region.binds .any e then s ||| 2 ^ e.on ||| acc.getD e.on 0 else s) 0
theorem waitF_bit (acc : List Nat) : ∀ (l : List Edge) (s0 j : Nat), (l.foldl (fun s e => if Region.binds .any e then s ||| 2 ^ e.on ||| acc.getD e.on 0 else s) s0).testBit j = true ↔ s0.testBit j = true ∨ ∃ e ∈ l, Region.binds .any e = true ∧ (e.on = j ∨ (acc.getD e.on 0).testBit j = true)
  | [], s0, j => by simp
  | e :: l, s0, j => by
    rw [List.foldl_cons, waitF_bit acc l]
    by_cases hb : Region.binds .any e = true
    · rw [if_pos hb]
      simp only [Nat.testBit_or, Bool.or_eq_true, Nat.testBit_two_pow, decide_eq_true_eq, List.mem_cons, exists_eq_or_imp, hb, true_and]
      constructor
      · rintro (((h | h) | h) | h)
        · exact .inl h
        · exact .inr (.inl (.inl h))
        · exact .inr (.inl (.inr h))
        · exact .inr (.inr h)
      · rintro (h | (h | h) | h)
        · exact .inl (.inl (.inl h))
        · exact .inl (.inl (.inr h))
        · exact .inl (.inr h)
        · exact .inr h
    · rw [if_neg hb]
      simp [hb]
theorem waitsA_snoc (ops : List Oper) (o : Oper) : waitsA (ops ++ [o]) = waitsA ops ++ [waitF (waitsA ops) o] := by
  unfold waitsA
  rw [List.foldl_append]
  rfl
theorem waitsA_len (ops : List Oper) : (waitsA ops).length = ops.length := by
  have : ∀ (n : Nat) (ops : List Oper), ops.length = n → (waitsA ops).length = n := by
    intro n
    induction n with
    | zero => intro ops h; rw [List.eq_nil_of_length_eq_zero h]; rfl
    | succ n ih =>
      intro ops h
      have hne : ops ≠ [] := by intro e; subst e; simp at h
      rw [← List.dropLast_concat_getLast hne, waitsA_snoc]
      have := ih ops.dropLast (by simp [h])
      simp [this]
  exact this _ ops rfl
def W (ops : List Oper) (k : Nat) : Nat := (waitsA ops).getD k 0
theorem waits_pre (ops l : List Oper) (k : Nat) (hk : k < ops.length) : (waitsA (ops ++ l))[k]? = (waitsA ops)[k]? := by
  have : ∀ (n : Nat) (l : List Oper), l.length = n → (waitsA (ops ++ l))[k]? = (waitsA ops)[k]? := by
    intro n
    induction n with
    | zero => intro l h; rw [List.eq_nil_of_length_eq_zero h, List.append_nil]
    | succ n ih =>
      intro l h
      have hne : l ≠ [] := by intro e; subst e; simp at h
      rw [← List.dropLast_concat_getLast hne, ← List.append_assoc, waitsA_snoc, List.getElem?_append_left (by rw [waitsA_len]; simp; omega)]
      exact ih l.dropLast (by simp [h])
  exact this _ l rfl
/-- What an operation waits for: what its edges name, and what those wait for. -/
theorem W_spec {ops : List Oper} {k : Nat} {o : Oper} (ho : ops[k]? = some o) {j : Nat} : (W ops k).testBit j = true ↔ ∃ e ∈ o.after, Region.binds .any e = true ∧ (e.on = j ∨ (((waitsA ops).take k).getD e.on 0).testBit j = true) := by
  have hk := (List.getElem?_eq_some_iff.1 ho).1
  have hsplit : ops = ops.take (k + 1) ++ ops.drop (k + 1) := (List.take_append_drop _ _).symm
  have hsnoc : ops.take (k + 1) = ops.take k ++ [o] := by rw [List.take_add_one, ho]; rfl
  have htk : (waitsA ops).take k = waitsA (ops.take k) := by
    apply List.ext_getElem?
    intro i
    by_cases hi : i < k
    · rw [List.getElem?_take_of_lt hi]
      conv => lhs; rw [← List.take_append_drop k ops]
      rw [waits_pre _ _ i (by simp; omega)]
    · rw [List.getElem?_eq_none (by simp; omega), List.getElem?_eq_none (by rw [waitsA_len]; simp; omega)]
  have hW : W ops k = waitF (waitsA (ops.take k)) o := by
    unfold W
    rw [List.getD_eq_getElem?_getD]
    conv => lhs; rw [hsplit]
    rw [waits_pre _ _ k (by simp; omega), hsnoc, waitsA_snoc, List.getElem?_append_right (by rw [waitsA_len]; simp; omega), waitsA_len]
    have : k - (ops.take k).length = 0 := by simp; omega
    rw [this]
    rfl
  rw [hW, htk]
  unfold waitF
  rw [waitF_bit]
  simp [Array.mem_toList_iff]
-- ## the steps in the order of the text
structure Stp where
  p : St
  v : AV
  q : St
def Stp.rc (x : Stp) : Rec := ⟨x.q.log, x.p.n, x.q.n⟩
def Stp.wr (x : Stp) : Bool := x.q.log.any (·.writes)
/-- What the steps say: before the k-th one the state S k and the activation A k. -/
structure Text (P : Program) (C : Callee) (Y : Yielder) (ops : List Oper) (ss : List Stp) (A : Nat → AAct) (S : Nat → St) : Prop where
  len : ss.length = ops.length
  at_ : ∀ k x o, ss[k]? = some x → ops[k]? = some o → x.p = { S k with log := [] } ∧ A (k + 1) = (A k).put o.dst x.v ∧ S (k + 1) = { x.q with log := x.q.log ++ (S k).log } ∧
    ((wantedA ops o (A k) = some true ∧ oneVal P C Y (A k) o x.p = some (.ret x.v, x.q)) ∨ (wantedA ops o (A k) = some false ∧ x.v = undefA ∧ x.q = x.p))
  clash : ∀ j k x y, j < k → ss[j]? = some x → ss[k]? = some y → (W ops k).testBit j = false → x.rc.clash y.rc = false
theorem clashes_false {w : Nat} {r : Rec} : ∀ {l : List Rec} {i : Nat}, clashes w r l i = false → ∀ j x, l[j]? = some x → w.testBit (i + j) = false → x.clash r = false
  | [], i, _, j, x, hx, _ => by simp at hx
  | y :: l, i, h, 0, x, hx, hw => by
    simp at hx
    subst hx
    unfold clashes at h
    simp only [Bool.or_eq_false_iff, Bool.and_eq_false_iff, Bool.not_eq_false'] at h
    rcases h.1 with h1 | h1
    · simp at hw; rw [hw] at h1; cases h1
    · exact h1
  | y :: l, i, h, j + 1, x, hx, hw => by
    unfold clashes at h
    simp only [Bool.or_eq_false_iff] at h
    exact clashes_false h.2 j x (by simpa using hx) (by rw [show i + 1 + j = i + (j + 1) by omega]; exact hw)
theorem clash_empty (r : Rec) (n m : Nat) : r.clash ⟨[], n, m⟩ = false := by
  unfold Rec.clash
  simp
section
variable {P : Program} {C : Callee} {Y : Yielder}
def TextL (P : Program) (C : Callee) (Y : Yielder) (ops l : List Oper) (ws : List Nat) (rs : List Rec) (aa : AAct) (s : St) (aa' : AAct) (s' : St) : Prop :=
    ∃ (ss : List Stp) (A : Nat → AAct) (S : Nat → St), A 0 = aa ∧ S 0 = s ∧ A l.length = aa' ∧ S l.length = s' ∧ ss.length = l.length ∧ (∀ (k : Nat) (x : Stp) (o : Oper), ss[k]? = some x → l[k]? = some o → x.p = { S k with log := [] } ∧ A (k + 1) = (A k).put o.dst x.v ∧ S (k + 1) = { x.q with log := x.q.log ++ (S k).log } ∧
      ((wantedA ops o (A k) = some true ∧ oneVal P C Y (A k) o x.p = some (.ret x.v, x.q)) ∨ (wantedA ops o (A k) = some false ∧ x.v = undefA ∧ x.q = x.p))) ∧
      ∀ (k : Nat) (y : Stp), ss[k]? = some y → ∃ w : Nat, ws[k]? = some w ∧ (∀ (j : Nat) (r : Rec), rs[j]? = some r → w.testBit j = false → r.clash y.rc = false) ∧ ∀ (j : Nat) (x : Stp), j < k → ss[j]? = some x → w.testBit (rs.length + j) = false → x.rc.clash y.rc = false
theorem draw_text {ops : List Oper} : ∀ (l : List Oper) (ws : List Nat) (rs : List Rec) (aa : AAct) (s : St) {aa' : AAct} {s' : St}, drawOps P C Y ops l ws rs aa s = .ok aa' s' → TextL P C Y ops l ws rs aa s aa' s'
  | [], ws, rs, aa, s, aa', s', h => by
    unfold drawOps at h
    cases h
    exact ⟨[], fun _ => aa, fun _ => s, rfl, rfl, rfl, rfl, rfl, fun k x o hx => by simp at hx, fun k y hy => by simp at hy⟩
  | o :: l, [], rs, aa, s, aa', s', h => by unfold drawOps at h; cases h
  | o :: l, w :: ws, rs, aa, s, aa', s', h => by
    have build : ∀ (x : Stp), x.p = { s with log := [] } → ((wantedA ops o aa = some true ∧ oneVal P C Y aa o x.p = some (.ret x.v, x.q)) ∨ (wantedA ops o aa = some false ∧ x.v = undefA ∧ x.q = x.p)) → (∀ j r, rs[j]? = some r → w.testBit j = false → r.clash x.rc = false) →
        drawOps P C Y ops l ws (rs ++ [x.rc]) (aa.put o.dst x.v) { x.q with log := x.q.log ++ s.log } = .ok aa' s' → TextL P C Y ops (o :: l) (w :: ws) rs aa s aa' s' := fun x hxp hx hcl hrest => by
      obtain ⟨ss, A, S, h1, h2, h3, h4, h5, h6, h7⟩ := draw_text l ws _ _ _ hrest
      refine ⟨x :: ss, fun k => match k with | 0 => aa | k + 1 => A k, fun k => match k with | 0 => s | k + 1 => S k, rfl, rfl, h3, h4, by simp [h5], fun k y oo hy ho => ?_, fun k y hy => ?_⟩
      · cases k with
        | zero =>
          simp at hy ho
          subst hy ho
          exact ⟨hxp, h1, h2, hx⟩
        | succ k => exact h6 k y oo (by simpa using hy) (by simpa using ho)
      · cases k with
        | zero =>
          simp at hy
          subst hy
          exact ⟨w, rfl, hcl, fun j x hj => by omega⟩
        | succ k =>
          obtain ⟨w', g1, g2, g3⟩ := h7 k y (by simpa using hy)
          refine ⟨w', by simpa using g1, fun j r hr hb => g2 j r (by rw [List.getElem?_append_left (List.getElem?_eq_some_iff.1 hr).1]; exact hr) hb, fun j z hj hz hb => ?_⟩
          cases j with
          | zero =>
            simp at hz
            subst hz
            exact g2 rs.length x.rc (by simp) (by simpa using hb)
          | succ j => exact g3 j z (by omega) (by simpa using hz) (by rw [List.length_append, List.length_singleton, show rs.length + 1 + j = rs.length + (j + 1) by omega]; exact hb)
    unfold drawOps at h
    split at h
    · rename_i hw
      split at h
      · rename_i v s1 hv
        split at h
        · cases h
        · rename_i hcl
          have hcl : clashes w ⟨s1.log, s.n, s1.n⟩ rs 0 = false := by simpa using hcl
          exact build ⟨{ s with log := [] }, v, s1⟩ rfl (.inl ⟨hw, hv⟩) (fun j r hr hb => clashes_false hcl j r hr (by simpa using hb)) h
      · cases h
    · rename_i hw
      exact build ⟨{ s with log := [] }, undefA, { s with log := [] }⟩ rfl (.inr ⟨hw, rfl, rfl⟩) (fun j r hr hb => clash_empty _ _ _) (by simpa [Stp.rc] using h)
    · cases h
theorem draw_Text {ops : List Oper} {aa aa' : AAct} {s s' : St} (h : drawOps P C Y ops ops (waitsA ops) [] aa s = .ok aa' s') : ∃ ss A S, Text P C Y ops ss A S ∧ A 0 = aa ∧ S 0 = s ∧ A ops.length = aa' ∧ S ops.length = s' := by
  obtain ⟨ss, A, S, h1, h2, h3, h4, h5, h6, h7⟩ := draw_text ops _ _ _ _ h
  refine ⟨ss, A, S, ⟨h5, h6, fun j k x y hj hx hy hb => ?_⟩, h1, h2, h3, h4⟩
  obtain ⟨w, g1, g2, g3⟩ := h7 k y hy
  refine g3 j x hj hx ?_
  unfold W at hb
  rw [List.getD_eq_getElem?_getD, g1] at hb
  simpa using hb
end
end Go.Proofs.YtnodnpehjbhphaaGreatDoor.Rk
