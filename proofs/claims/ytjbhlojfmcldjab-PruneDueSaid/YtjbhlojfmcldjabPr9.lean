/- What prune.Forward returns: whether a row may stand where another one stood. -/
import Derived.Test.YtjbhlojfmcldjabPr8
import Derived.Test.YtjbhlojfmcldjabPlainForward
namespace Go.Proofs.Ytjbhlojfmcldjab
set_option linter.unusedVariables false
open Go.RowKit Go.BigFrame
/-- What a leg may become. -/
def MayGo (z : Value) : Prop := ∃ x y : Int, (x = 1 ∨ x = 2) ∧ (y = 2 ∨ y = 3 ∨ y = 4 ∨ y = 0) ∧ z = .agg #[.int .i64 x, .int .i64 y]
def Fst (i : Nat) (j : Nat) (z : Value) : Prop := ∃ a b : Nat, a < 2 ∧ b < 4 ∧ (a < i ∨ (a = i ∧ b < j)) ∧ z = .agg #[.int .i64 ([1, 2].getD a 0), .int .i64 ([2, 3, 4, 0].getD b 0)]
theorem fst_zero (z : Value) : Fst 0 0 z ↔ False := by
  unfold Fst
  constructor
  · rintro ⟨a, b, _, _, h | ⟨_, h⟩, _⟩ <;> omega
  · intro h; exact h.elim
theorem fst_next (i : Nat) (z : Value) : Fst i 4 z ↔ Fst (i + 1) 0 z := by
  unfold Fst
  constructor
  · rintro ⟨a, b, ha, hb, h, e⟩
    exact ⟨a, b, ha, hb, by omega, e⟩
  · rintro ⟨a, b, ha, hb, h, e⟩
    exact ⟨a, b, ha, hb, by omega, e⟩
theorem fst_put (i j : Nat) (hi : i < 2) (hj : j < 4) (z : Value) : (z = .agg #[.int .i64 ([1, 2].getD i 0), .int .i64 ([2, 3, 4, 0].getD j 0)] ∨ Fst i j z) ↔ Fst i (j + 1) z := by
  unfold Fst
  constructor
  · rintro (h | ⟨a, b, ha, hb, h, e⟩)
    · exact ⟨i, j, hi, hj, by omega, h⟩
    · exact ⟨a, b, ha, hb, by omega, e⟩
  · rintro ⟨a, b, ha, hb, h, e⟩
    by_cases hab : a = i ∧ b = j
    · obtain ⟨rfl, rfl⟩ := hab
      exact Or.inl e
    · exact Or.inr ⟨a, b, ha, hb, by omega, e⟩
theorem fst_all (z : Value) : Fst 2 0 z ↔ MayGo z := by
  unfold Fst MayGo
  constructor
  · rintro ⟨a, b, ha, hb, h, e⟩
    refine ⟨_, _, ?_, ?_, e⟩
    · rcases (by omega : a = 0 ∨ a = 1) with rfl | rfl <;> simp
    · rcases (by omega : b = 0 ∨ b = 1 ∨ b = 2 ∨ b = 3) with rfl | rfl | rfl | rfl <;> simp
  · rintro ⟨x, y, hx, hy, e⟩
    obtain ⟨a, ha, ea⟩ : ∃ a, a < 2 ∧ [1, 2].getD a 0 = x := by rcases hx with rfl | rfl; exact ⟨0, by omega, rfl⟩; exact ⟨1, by omega, rfl⟩
    obtain ⟨b, hb, eb⟩ : ∃ b, b < 4 ∧ [2, 3, 4, 0].getD b 0 = y := by
      rcases hy with rfl | rfl | rfl | rfl
      · exact ⟨0, by omega, rfl⟩
      · exact ⟨1, by omega, rfl⟩
      · exact ⟨2, by omega, rfl⟩
      · exact ⟨3, by omega, rfl⟩
    exact ⟨a, b, ha, hb, Or.inl ha, by rw [ea, eb]; exact e⟩
/-- The call hands back a set; what was there stands. -/
def GivesM (w : World) (S : Value → Prop) (x : Ending) (w' : World) : Prop := ∃ b n, x = .returned (.map (some b)) ∧ SetIs w' 67 b n S ∧ w.heap.size ≤ b ∧ Below w.heap.size w w'
theorem ix2 (W : World) (n : Nat) (hn : n < 2) : (Instr.index 67 (.agg #[.int .i64 1, .int .i64 2]) (.int .i64 (n : Int))).run Try.prog W = .ok (.int .i64 ([1, 2].getD n 0)) W := by
  rcases (by omega : n = 0 ∨ n = 1) with rfl | rfl <;> kernel_rfl
theorem ix4 (W : World) (n : Nat) (hn : n < 4) : (Instr.index 76 (.agg #[.int .i64 2, .int .i64 3, .int .i64 4, .int .i64 0]) (.int .i64 (n : Int))).run Try.prog W = .ok (.int .i64 ([2, 3, 4, 0].getD n 0)) W := by
  rcases (by omega : n = 0 ∨ n = 1 ∨ n = 2 ∨ n = 3) with rfl | rfl | rfl | rfl <;> kernel_rfl
theorem wf_small {x : Int} (h : 0 ≤ x ∧ x ≤ 4) : (Lit.int .i64 x).wf = true := by
  rcases (by omega : x = 0 ∨ x = 1 ∨ x = 2 ∨ x = 3 ∨ x = 4) with rfl | rfl | rfl | rfl | rfl <;> decide
set_option maxRecDepth 100000 in
set_option maxHeartbeats 2000000 in
theorem goes_any (w : World) : Calls Try.prog 31 #[] w (GivesM w MayGo) := by
  have hmm := @run_makeMap Try.prog
  have hst := SetIs.made w 67
  have ST := Lib.hid (hst.say (S' := Fst 0 0) (fun v => (fst_zero v).symm))
  have WB := Lib.hid ((Below.refl w.heap.size w).alloc (Nat.le_refl _) (.map #[] 0))
  clear hst
  go_enter Try.func31, Try.ntmps31
  go_wp2_with fail
  go_loopw [8] (fun x wr => ∃ i : Nat, i ≤ 2 ∧ x = .int .i64 i ∧ SetIs wr 67 w.heap.size (4 * i) (Fst i 0) ∧ w.heap.size < wr.heap.size ∧ Below w.heap.size w wr) (fun x _ => 2 - (intOf x).toNat)
  case atStart => exact ⟨0, by omega, rfl, ST.out, by simp, WB.out⟩
  case round =>
    obtain ⟨i, hi, rfl, hset, hsz, hbel⟩ := hrel
    by_cases hlt : i < 2
    · have h2 := fun W => ix2 W i hlt
      have hdi : decide ((i : Int) < 2) = true := decide_eq_true (by omega)
      have hx : (0 : Int) ≤ ([1, 2] : List Int).getD i 0 ∧ ([1, 2] : List Int).getD i 0 ≤ 4 := by rcases (by omega : i = 0 ∨ i = 1) with rfl | rfl <;> decide
      have SB := Lib.hid hset
      have BB := Lib.hid hbel
      clear hset hbel
      have hfp := Lib.hid (fun j (hj : j < 4) z => fst_put i j hlt hj z)
      have hwx := wf_small hx
      generalize ([1, 2] : List Int).getD i 0 = x at *
      go_wp2_with fail
      go_loopw [12] (fun y wr => ∃ j : Nat, j ≤ 4 ∧ y = .int .i64 j ∧ SetIs wr 67 w.heap.size (4 * i + j) (Fst i j) ∧ w.heap.size < wr.heap.size ∧ Below w.heap.size w wr) (fun y _ => 4 - (intOf y).toNat)
      case atStart => exact ⟨0, by omega, rfl, SB.out, hsz, BB.out⟩
      case round =>
        obtain ⟨j, hj, rfl, hset, hsz, hbel⟩ := hrel
        by_cases hjt : j < 4
        · have h4 := fun W => ix4 W j hjt
          have hdj : decide ((j : Int) < 4) = true := decide_eq_true (by omega)
          have hy : (0 : Int) ≤ ([2, 3, 4, 0] : List Int).getD j 0 ∧ ([2, 3, 4, 0] : List Int).getD j 0 ≤ 4 := by rcases (by omega : j = 0 ∨ j = 1 ∨ j = 2 ∨ j = 3) with rfl | rfl | rfl | rfl <;> decide
          have hpz := Lib.hid (hfp.out j hjt)
          have hkey := key2 hwx (wf_small hy)
          generalize ([2, 3, 4, 0] : List Int).getD j 0 = y at *
          go_wp2_with (at_mapUpdate; refine wpList_set_put rfl (.tmp 15) (.tmp 18) (.tmp 19) 64 67 rfl law2 Try.underlying64 w.heap.size (4 * i + j) _ rfl hset (by unfold maxLen; omega) _ _ rfl rfl hkey ?_; intro w5 hset5 hg5)
          have W5 := Lib.hid (hbel.grown hg5 hbel.size (fun k hk => by cases hk; omega))
          have Z5 := Lib.hid (show w.heap.size < w5.heap.size from Nat.lt_of_lt_of_le hsz hg5.size)
          have S5 := Lib.hid (hset5.say (S' := Fst i (j + 1)) hpz.out)
          clear hg5 hset5
          go_roundw
          case rel => exact ⟨j + 1, by omega, by go_num, S5.out.mono (by omega), Z5.out, W5.out⟩
          case measure => simp [intOf]; omega
        · have hj4 : j = 4 := by omega
          subst hj4
          have S5 := Lib.hid ((hset.say (S' := Fst (i + 1) 0) (fst_next i)).mono (n' := 4 * (i + 1)) (by omega))
          clear hset
          go_wp2
          go_roundw
          case rel => exact ⟨i + 1, by omega, by go_num, S5.out, hsz, hbel⟩
          case measure => simp [intOf]; omega
    · have hi2 : i = 2 := by omega
      subst hi2
      have S5 := Lib.hid (hset.say (S' := MayGo) fst_all)
      clear hset
      go_wp2
      go_ret
      exact ⟨_, _, rfl, S5.out, Nat.le_refl _, hbel⟩
end Go.Proofs.Ytjbhlojfmcldjab
