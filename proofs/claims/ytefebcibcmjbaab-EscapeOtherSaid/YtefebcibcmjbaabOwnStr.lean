/- append of a string's bytes onto bytes that the call itself has gathered; a scope with several labels. Plain lemmas. -/
import Derived.Test.YtefebcibcmjbaabOwn
import Derived.Lib.AppendStr
import Derived.ScopeJumps
import Derived.WalkMore
namespace Go.Proofs.Ytefebcibcmjbaab
set_option linter.unusedVariables false
open Go Go.RowKit
theorem strCells_valU8 (s : ByteArray) : Lib.strCells s = s.data.toList.map valU8 := rfl
theorem wpList_append_str {w : World} {ops : Array Oper} {rest : List Oper} {o : Oper} {a : Act} {Q : Exit → Act → World → Prop} (hgd : o.guard = none) (s x : Operand)
    (ho : o.op = .call { callee := .builtin .append, args := #[s, x], argTypes := #[32, 9] })
    (B : Nat) (v : Value) (l : List UInt8) (hs : a.eval s = v) (hown : OwnB w B v l)
    (t : ByteArray) (hx : a.eval x = .string t)
    (hbytes : l.length + t.size ≤ 140737488355328) (hbase : B ≤ w.heap.size)
    (h : ∀ v' w', OwnB w' B v' (l ++ t.data.toList) → Below B w w' → wpList Try.prog ops Q rest (a.put o.dst v') w') : wpList Try.prog ops Q (o :: rest) a w := by
  obtain ⟨i, hi, hz, hs1, hb1⟩ := info_parts infoU8
  refine Lib.wpList_append_own_string w hgd s x 32 9 ho B 5 i Try.underlying32 Try.underlying9 hi hz hs1 hb1 v l.length (l.map valU8) hs hown t hx (by unfold maxLen; omega) hbytes hbase ?_
  intro v' w' hown' hg _
  refine h v' w' ?_ ((Below.refl _ _).grown hg hbase (fun k hk => (World.ownsRow.lt hown k hk).1))
  unfold OwnB
  rw [List.length_append, List.map_append, ← strCells_valU8]
  exact (show t.data.toList.length = t.size by simp) ▸ hown'
/-- As Q; by a goto to label l: J l. -/
def jumpsTo (J : Nat → Act → World → Prop) (Q : Exit → Act → World → Prop) : Exit → Act → World → Prop
  | .goto l, a, w => J l a w
  | e, a, w => Q e a w
section
variable {J : Nat → Act → World → Prop} {Q : Exit → Act → World → Prop} {a : Act} {w : World}
theorem jumpsTo_normal : jumpsTo J Q .normal a w = Q .normal a w := rfl
theorem jumpsTo_ret : jumpsTo J Q .ret a w = Q .ret a w := rfl
theorem jumpsTo_goto (l : Nat) : jumpsTo J Q (.goto l) a w = J l a w := rfl
/-- A scope of which several labels are jumped to: what holds at each jump, and a measure that every pass from a label to the next one lowers. -/
theorem wp_scope_labels {P : Program} {c : Code} (rest : Nat → Code) (J : Nat → Act → World → Prop) (μ : Nat → Act → World → Nat) (hf : ∀ l a w, J l a w → findLabel c l = some (rest l))
    (first : c.wp P (jumpsTo J Q) a w) (pass : ∀ l a w, J l a w → (rest l).wp P (jumpsTo (fun l' a' w' => J l' a' w' ∧ μ l' a' w' < μ l a w) Q) a w) : (Code.scope c).wp P Q a w := by
  intro b k cs
  have again : ∀ n l a w, μ l a w = n → J l a w → ∃ e a' w', Q e a' w' ∧ Arrives P (lone (b.at a (.code (rest l) :: .inScope c :: k)) cs w) b k cs e a' w' := fun n => by
    induction n using Nat.strongRecOn with
    | _ n ih =>
      intro l a w hn hJ
      obtain ⟨e, a1, w1, hq, harr⟩ := pass l a w hJ b (.inScope c :: k) cs
      match e, hq, harr with
      | .goto l2, hq, harr =>
        obtain ⟨hJ2, hlt⟩ := hq
        obtain ⟨e2, a2, w2, hq2, harr2⟩ := ih _ (hn ▸ hlt) l2 a1 w1 rfl hJ2
        exact ⟨e2, a2, w2, hq2, .of_steps (harr _ (by simp [gotoIn, hf l2 a1 w1 hJ2])) harr2⟩
      | .normal, hq, harr => exact ⟨_, a1, w1, hq, Steps.trans harr (.one step_inScope)⟩
      | .exit id, hq, harr => exact ⟨.exit id, a1, w1, hq, fun k' hk => harr k' (by simpa [exitTo] using hk)⟩
      | .ret, hq, harr => exact ⟨_, a1, w1, hq, harr⟩
      | .panic ch, hq, harr => exact ⟨_, a1, w1, hq, harr⟩
      | .outgrown, hq, harr => exact ⟨_, a1, w1, hq, harr⟩
  obtain ⟨e, a1, w1, hq, harr⟩ := first b (.inScope c :: k) cs
  match e, hq, harr with
  | .goto l2, hq, harr =>
    obtain ⟨e2, a2, w2, hq2, harr2⟩ := again _ l2 a1 w1 rfl hq
    exact ⟨e2, a2, w2, hq2, .of_steps (.head step_scope (harr _ (by simp [gotoIn, hf l2 a1 w1 hq]))) harr2⟩
  | .normal, hq, harr => exact ⟨.normal, a1, w1, hq, .head step_scope (Steps.trans harr (.one step_inScope))⟩
  | .exit id, hq, harr => exact ⟨.exit id, a1, w1, hq, fun k' hk => .head step_scope (harr k' (by simpa [exitTo] using hk))⟩
  | .ret, hq, harr => exact ⟨_, a1, w1, hq, .of_steps (.one step_scope) harr⟩
  | .panic ch, hq, harr => exact ⟨_, a1, w1, hq, .of_steps (.one step_scope) harr⟩
  | .outgrown, hq, harr => exact ⟨_, a1, w1, hq, .of_steps (.one step_scope) harr⟩
/-- Two labels, 0 and 1; the first one is come to by going on, too. -/
theorem wp_scope_two {P : Program} {c r0 r1 : Code} (J : Nat → Act → World → Prop) (μ : Nat → Act → World → Nat) (h0 : findLabel c 0 = some (.seq .skip r0)) (h1 : findLabel c 1 = some (.seq .skip r1)) (hJ : ∀ l a w, J l a w → l = 0 ∨ l = 1)
    (pass0 : ∀ a w, J 0 a w → r0.wp P (jumpsTo (fun l' a' w' => J l' a' w' ∧ μ l' a' w' < μ 0 a w) Q) a w)
    (pass1 : ∀ a w, J 1 a w → r1.wp P (jumpsTo (fun l' a' w' => J l' a' w' ∧ μ l' a' w' < μ 1 a w) Q) a w)
    (first : (∀ a w, J 0 a w → r0.wp P (jumpsTo J Q) a w) → c.wp P (jumpsTo J Q) a w) : (Code.scope c).wp P Q a w := by
  refine wp_scope_labels (fun l => if l = 0 then .seq .skip r0 else .seq .skip r1) J μ (fun l a w h => ?_) (first fun a w h => wp_mono (pass0 a w h) fun e a w hq => ?_) fun l a w h => ?_
  · rcases hJ l a w h with rfl | rfl
    · exact h0
    · exact h1
  · cases e with
    | goto l => exact hq.1
    | _ => exact hq
  · rcases hJ l a w h with rfl | rfl
    · exact wp_seq (wp_skip (pass0 a w h))
    · exact wp_seq (wp_skip (pass1 a w h))
end
end Go.Proofs.Ytefebcibcmjbaab
