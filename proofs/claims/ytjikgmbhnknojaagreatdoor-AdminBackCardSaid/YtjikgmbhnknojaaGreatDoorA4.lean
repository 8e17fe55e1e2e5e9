/- Parts, joined. -/
import Derived.Test.YtjikgmbhnknojaaGreatDoorA3
/- What lex.word returns: a word, how long it is; or that there is none. -/
namespace Go.Proofs.YtjikgmbhnknojaaGreatDoor
set_option linter.unusedVariables false
open Go Go.RowKit Go.BigFrame
/-- A word's cells; its place is not told yet. -/
def WV (t : Ad.Tok) (cs : List Value) : Prop := ∃ p, PathC p ∧ cs = [.int .i64 t.kind, .string ⟨t.text.toArray⟩, .int .i64 t.num] ++ p ++ [.int .i64 0, .int .i64 0]
abbrev zw : Array Value := #[.int .i64 0, .string ⟨#[]⟩, .int .i64 0, .string ⟨#[]⟩, .int .i64 0, .int .i64 0, .int .i64 0, .int .i64 0, .int .i64 0, .int .i64 0, .int .i64 0]
def WordOut (s : ByteArray) (e : Ending) : Prop :=
  ∃ x, Ad.WordR s.data.toList x ∧ match x with
    | none => ∃ er, er ≠ (0 : Int) ∧ e = .returned (.tuple #[.agg zw, .int .i64 0, .int .i64 er])
    | some (t, n) => ∃ cs, WV t cs ∧ e = .returned (.tuple #[.agg cs.toArray, .int .i64 (n : Nat), .int .i64 0])
theorem results_cell_tmp2 {fn : Func} {p u v : Tmp} {ty : TypeId} (h : fn.results = #[.cell p ty, .tmp u, .tmp v]) (tmps : Array Value) (P : Program) (w : World) :
    (results fn tmps).run P w =
      ((asAddr (tmps.getD p undef)).run P w).andThen fun a w₁ => ((loadVar ty a).run P w₁).andThen fun x w₂ => .ok (.tuple #[x, tmps.getD u undef, tmps.getD v undef]) w₂ := by
  simp only [results, h]
  simp [Sem.run_bind, Result.andThen]
set_option maxRecDepth 100000 in
theorem word_res {W : World} {tmps : Array Value} {g : Nat} {v3 v4 : Value} {cs : Array Value} (hW : Blk W g 55 cs) (hl : cs.size = 11) (h2 : tmps.getD 2 undef = .pointer (some ⟨g, 0, none⟩)) (h3 : tmps.getD 3 undef = v3) (h4 : tmps.getD 4 undef = v4) :
    (results Tryz.f58 tmps).run Tryz.prog W = .ok (.tuple #[.agg cs, v3, v4]) W := by
  rw [results_cell_tmp2 rfl, h2, h3, h4]
  have hi : (Tryz.prog.info? 55).map (·.size) = some cs.size := by rw [hl]; kernel_rfl
  have h := run_loadVar_row (P := Tryz.prog) W g 55 55 cs (0, 0) _ hW Tryz.underlying55 rfl hi
  simp only [asAddr, Sem.run_pure, Result.andThen_ok, h]
/-- Cells of a block, written one behind another. -/
theorem wrote11 {w W : World} {g : Nat} {t : TypeId} (h : Blk W g t zw) (hb : Below w.heap.size w W) (hg : w.heap.size ≤ g) (a b c d e f i j k l m : Value) :
    Blk (((((((((((W.setCell ⟨g, 0, none⟩ a).setCell ⟨g, 1, none⟩ b).setCell ⟨g, 2, none⟩ c).setCell ⟨g, 3, none⟩ d).setCell ⟨g, 4, none⟩ e).setCell ⟨g, 5, none⟩ f).setCell ⟨g, 6, none⟩ i).setCell ⟨g, 7, none⟩ j).setCell ⟨g, 8, none⟩ k).setCell ⟨g, 9, none⟩ l).setCell ⟨g, 10, none⟩ m) g t #[a, b, c, d, e, f, i, j, k, l, m] ∧
    Below w.heap.size w (((((((((((W.setCell ⟨g, 0, none⟩ a).setCell ⟨g, 1, none⟩ b).setCell ⟨g, 2, none⟩ c).setCell ⟨g, 3, none⟩ d).setCell ⟨g, 4, none⟩ e).setCell ⟨g, 5, none⟩ f).setCell ⟨g, 6, none⟩ i).setCell ⟨g, 7, none⟩ j).setCell ⟨g, 8, none⟩ k).setCell ⟨g, 9, none⟩ l).setCell ⟨g, 10, none⟩ m) := by
  constructor
  · have hx := ((((((((((h.set_ 0 a).set_ 1 b).set_ 2 c).set_ 3 d).set_ 4 e).set_ 5 f).set_ 6 i).set_ 7 j).set_ 8 k).set_ 9 l).set_ 10 m
    simp only [List.setIfInBounds_toArray, List.set_cons_zero, List.set_cons_succ] at hx
    exact hx
  · exact ((((((((((hb.setCell hg a).setCell hg b).setCell hg c).setCell hg d).setCell hg e).setCell hg f).setCell hg i).setCell hg j).setCell hg k).setCell hg l).setCell hg m
end Go.Proofs.YtjikgmbhnknojaaGreatDoor

/- What lex.word returns at a name. -/
namespace Go.Proofs.YtjikgmbhnknojaaGreatDoor
set_option linter.unusedVariables false
open Go Go.RowKit Go.BigFrame
theorem bytes_eq {s : ByteArray} {l : List UInt8} (h : s.data.toList = l) : s = ⟨l.toArray⟩ := by
  subst h
  cases s
  simp
set_option maxRecDepth 100000 in
set_option maxHeartbeats 1600000 in
theorem word_name (s : ByteArray) (w : World) (hs : s.size ≤ 100000) (h0 : 0 < s.size) (hl : Ad.letter s[0] = true) :
    Calls Tryz.prog 58 #[.string s] w fun e w' => WordOut s e ∧ Below w.heap.size w w' := by
  have hi1 : ∀ W : World, (Instr.index 9 (.string s) (.int .i64 0)).run Tryz.prog W = .ok (.int .u8 (s[0].toNat : Int)) W := fun W => idx_atu s 0 (by omega) rfl W
  have hc := s[0].toNat_lt
  obtain ⟨r, hd⟩ : ∃ r, s.data.toList = s[0] :: r := ⟨s.data.toList.drop 1, by
    have := List.drop_eq_getElem_cons (l := s.data.toList) (i := 0) (by simpa using h0)
    rw [List.drop_zero] at this
    exact this⟩
  have HW := Lib.hid (show ∀ x, x = Ad.wordF s.data.toList → Ad.WordR s.data.toList x from fun x hx => by
    rw [hd] at hx ⊢
    unfold Ad.WordR
    simp only [hl, true_or, if_true]
    exact hx)
  have HF := Lib.hid (show Ad.wordF s.data.toList = if 32 < Ad.run Ad.nameC s.data.toList then none else some (⟨1, s.data.toList.take (Ad.run Ad.nameC s.data.toList), 0⟩, Ad.run Ad.nameC s.data.toList) from by
    generalize s.data.toList = L at *
    subst hd
    unfold Ad.wordF
    simp only [hl, if_true])
  generalize s[0] = c at *
  have K1 := Lib.hid (show ∀ W : World, Calls Tryz.prog 54 #[.int .u8 (c.toNat : Int)] W fun e w' => e = .returned (.bool true) ∧ w' = W from fun W => by
    have := letter_any c W
    rwa [hl] at this)
  have hle : Ad.run Ad.nameC s.data.toList ≤ s.size := by have := Ad.run_le Ad.nameC s.data.toList; rwa [len_size] at this
  have K2 : ∀ W : World, _ := fun W => runName_any s W (by omega)
  generalize Ad.run Ad.nameC s.data.toList = n at *
  have K2 := Lib.hid K2
  clear hd hl
  by_cases hn : 32 < n
  · have HF2 := Lib.hid (HF.out.trans (if_pos hn))
    have hr := Lib.hid (wrote11 (w := w) (W := (w.alloc (.cells zw 55)).alloc (.cells zw 55)) (g := w.heap.size) ((Blk.new w _ _).alloc _) (((Below.refl _ w).alloc (Nat.le_refl _) _).alloc (by simp) _) (Nat.le_refl _) (.int .i64 0) (.string ⟨#[]⟩) (.int .i64 0) (.string ⟨#[]⟩) (.int .i64 0) (.int .i64 0) (.int .i64 0) (.int .i64 0) (.int .i64 0) (.int .i64 0) (.int .i64 0))
    go_enter Tryz.func58, Tryz.ntmps58
    go_wp2_with (first | (go_at_call 54; refine (K1.out _).mono ?_; rintro e w' ⟨rfl, rfl⟩) | (go_at_call 55; refine (K2.out _).mono ?_; rintro e w' ⟨rfl, rfl⟩))
    refine bodyPost_ret (word_res ((Blk.new w _ _).alloc _) rfl rfl rfl rfl) rfl ⟨⟨none, HW.out _ HF2.out.symm, 2, by decide, rfl⟩, ((Below.refl _ w).alloc (Nat.le_refl _) _).alloc (by simp) _⟩
  · have HF2 := Lib.hid (HF.out.trans (if_neg hn))
    have K3 := Lib.hid (clone_any (s.extract 0 n) ((w.alloc (.cells zw 55)).alloc (.cells #[.int .i64 1, .string (s.extract 0 n), .int .i64 0, .string ⟨#[]⟩, .int .i64 0, .int .i64 0, .int .i64 0, .int .i64 0, .int .i64 0, .int .i64 0, .int .i64 0] 55)) (by rw [ByteArray.size_extract]; omega))
    go_enter Tryz.func58, Tryz.ntmps58
    go_wp2_with (first | (go_at_call 54; refine (K1.out _).mono ?_; rintro e w' ⟨rfl, rfl⟩) | (go_at_call 55; refine (K2.out _).mono ?_; rintro e w' ⟨rfl, rfl⟩))
    refine K3.out.mono ?_
    rintro e w1 ⟨rfl, hb1⟩
    have hg0 := ((Blk.new w 55 zw).alloc (.cells #[.int .i64 1, .string (s.extract 0 n), .int .i64 0, .string ⟨#[]⟩, .int .i64 0, .int .i64 0, .int .i64 0, .int .i64 0, .int .i64 0, .int .i64 0, .int .i64 0] 55)).below hb1 (by simp; omega)
    have hg1 : Blk w1 (w.heap.size + 1) 55 #[.int .i64 1, .string (s.extract 0 n), .int .i64 0, .string ⟨#[]⟩, .int .i64 0, .int .i64 0, .int .i64 0, .int .i64 0, .int .i64 0, .int .i64 0, .int .i64 0] := by
      have := (Blk.new (w.alloc (.cells zw 55)) 55 #[.int .i64 1, .string (s.extract 0 n), .int .i64 0, .string ⟨#[]⟩, .int .i64 0, .int .i64 0, .int .i64 0, .int .i64 0, .int .i64 0, .int .i64 0, .int .i64 0]).below hb1 (by simp)
      simpa using this
    have hx := Lib.hid (bytes_eq (ext_to s n))
    have hB1 : Below w.heap.size w w1 := ((((Below.refl _ w).alloc (Nat.le_refl _) (.cells zw 55)).alloc (by simp) (.cells #[.int .i64 1, .string (s.extract 0 n), .int .i64 0, .string ⟨#[]⟩, .int .i64 0, .int .i64 0, .int .i64 0, .int .i64 0, .int .i64 0, .int .i64 0, .int .i64 0] 55))).trans (hb1.mono (by simp; omega))
    have hfar := hg0.far (p := ⟨w.heap.size + 1, 1, none⟩) (by simp) (.string (s.extract 0 n))
    have hr := Lib.hid (wrote11 (w := w) hfar (hB1.setCell (p := ⟨w.heap.size + 1, 1, none⟩) (by simp) (.string (s.extract 0 n))) (Nat.le_refl _) (.int .i64 1) (.string (s.extract 0 n)) (.int .i64 0) (.string ⟨#[]⟩) (.int .i64 0) (.int .i64 0) (.int .i64 0) (.int .i64 0) (.int .i64 0) (.int .i64 0) (.int .i64 0))
    have p0 : w1.cell? ⟨w.heap.size + 1, 0, none⟩ = some (.int .i64 1) := hg1.cell 0
    have p1 : w1.cell? ⟨w.heap.size + 1, 1, none⟩ = some (.string (s.extract 0 n)) := hg1.cell 1
    have p2 : w1.cell? ⟨w.heap.size + 1, 2, none⟩ = some (.int .i64 0) := hg1.cell 2
    have p3 : w1.cell? ⟨w.heap.size + 1, 3, none⟩ = some (.string ⟨#[]⟩) := hg1.cell 3
    have p4 : w1.cell? ⟨w.heap.size + 1, 4, none⟩ = some (.int .i64 0) := hg1.cell 4
    have p5 : w1.cell? ⟨w.heap.size + 1, 5, none⟩ = some (.int .i64 0) := hg1.cell 5
    have p6 : w1.cell? ⟨w.heap.size + 1, 6, none⟩ = some (.int .i64 0) := hg1.cell 6
    have p7 : w1.cell? ⟨w.heap.size + 1, 7, none⟩ = some (.int .i64 0) := hg1.cell 7
    have p8 : w1.cell? ⟨w.heap.size + 1, 8, none⟩ = some (.int .i64 0) := hg1.cell 8
    have p9 : w1.cell? ⟨w.heap.size + 1, 9, none⟩ = some (.int .i64 0) := hg1.cell 9
    have p10 : w1.cell? ⟨w.heap.size + 1, 10, none⟩ = some (.int .i64 0) := hg1.cell 10
    have f1 := hg1.frozen 1
    have r0 := hg0.cell
    have q0 := hg0.frozen
    clear hfar hB1 hb1 hg0 hg1
    go_wp2_with fail
    refine bodyPost_ret (word_res hr.out.1 rfl rfl rfl rfl) rfl ⟨⟨some _, HW.out _ HF2.out.symm, _, ⟨_, ⟨⟨#[]⟩, 0, 0, 0, 0, 0, rfl⟩, rfl⟩, ?_⟩, hr.out.2⟩
    rw [hx.out]
    rfl
end Go.Proofs.YtjikgmbhnknojaaGreatDoor

/- What lex.word returns at a number. -/
namespace Go.Proofs.YtjikgmbhnknojaaGreatDoor
set_option linter.unusedVariables false
open Go Go.RowKit Go.BigFrame
set_option maxRecDepth 100000 in
set_option maxHeartbeats 1600000 in
theorem word_num (s : ByteArray) (w : World) (hs : s.size ≤ 100000) (h0 : 0 < s.size) (hl0 : Ad.letter s[0] = false) (hl : Ad.digit s[0] = true) :
    Calls Tryz.prog 58 #[.string s] w fun e w' => WordOut s e ∧ Below w.heap.size w w' := by
  have hi1 : ∀ W : World, (Instr.index 9 (.string s) (.int .i64 0)).run Tryz.prog W = .ok (.int .u8 (s[0].toNat : Int)) W := fun W => idx_atu s 0 (by omega) rfl W
  have hc := s[0].toNat_lt
  obtain ⟨r, hd⟩ : ∃ r, s.data.toList = s[0] :: r := ⟨s.data.toList.drop 1, by
    have := List.drop_eq_getElem_cons (l := s.data.toList) (i := 0) (by simpa using h0)
    rw [List.drop_zero] at this
    exact this⟩
  have HW := Lib.hid (show ∀ x, x = Ad.wordF s.data.toList → Ad.WordR s.data.toList x from fun x hx => by
    rw [hd] at hx ⊢
    unfold Ad.WordR
    simp only [hl, true_or, or_true, if_true]
    exact hx)
  have HF := Lib.hid (show Ad.wordF s.data.toList = if P.numOk (s.data.toList.take (Ad.run Ad.digit s.data.toList)) = true then some (⟨2, s.data.toList.take (Ad.run Ad.digit s.data.toList), P.numV (s.data.toList.take (Ad.run Ad.digit s.data.toList))⟩, Ad.run Ad.digit s.data.toList) else none from by
    generalize s.data.toList = L at *
    subst hd
    unfold Ad.wordF
    simp only [hl0, hl, if_true, Bool.false_eq_true, if_false])
  generalize s[0] = c at *
  have K1 := Lib.hid (show ∀ W : World, Calls Tryz.prog 54 #[.int .u8 (c.toNat : Int)] W fun e w' => e = .returned (.bool false) ∧ w' = W from fun W => by
    have := letter_any c W
    rwa [hl0] at this)
  have K1d := Lib.hid (show ∀ W : World, Calls Tryz.prog 90 #[.int .u8 (c.toNat : Int)] W fun e w' => e = .returned (.bool true) ∧ w' = W from fun W => by
    have := isDigit_any c W
    rwa [hl] at this)
  have hle : Ad.run Ad.digit s.data.toList ≤ s.size := by have := Ad.run_le Ad.digit s.data.toList; rwa [len_size] at this
  have K2 : ∀ W : World, _ := fun W => runDigit_any s W (by omega)
  generalize Ad.run Ad.digit s.data.toList = n at *
  have K2 := Lib.hid K2
  have KN := fun W => number_any (s.extract 0 n) W (by rw [ByteArray.size_extract]; unfold maxLen; omega)
  rw [ext_to s n] at KN
  unfold P.numE at KN
  have KN := Lib.hid KN
  clear hd hl hl0
  generalize hv : P.numV (s.data.toList.take n) = v at *
  cases hn : P.numOk (s.data.toList.take n) with
  | false =>
    rw [hn] at KN HF
    have HF2 := Lib.hid (HF.out.trans (if_neg (by simp)))
    have hr := Lib.hid (wrote11 (w := w) (W := (w.alloc (.cells zw 55)).alloc (.cells zw 55)) (g := w.heap.size) ((Blk.new w _ _).alloc _) (((Below.refl _ w).alloc (Nat.le_refl _) _).alloc (by simp) _) (Nat.le_refl _) (.int .i64 0) (.string ⟨#[]⟩) (.int .i64 0) (.string ⟨#[]⟩) (.int .i64 0) (.int .i64 0) (.int .i64 0) (.int .i64 0) (.int .i64 0) (.int .i64 0) (.int .i64 0))
    go_enter Tryz.func58, Tryz.ntmps58
    go_wp2_with (first | (go_at_call 54; refine (K1.out _).mono ?_; rintro e w' ⟨rfl, rfl⟩) | (go_at_call 90; refine (K1d.out _).mono ?_; rintro e w' ⟨rfl, rfl⟩) | (go_at_call 92; refine (KN.out _).mono ?_; rintro e w' ⟨rfl, rfl⟩) | (go_at_call 55; refine (K2.out _).mono ?_; rintro e w' ⟨rfl, rfl⟩))
    refine bodyPost_ret (word_res ((Blk.new w _ _).alloc _) rfl rfl rfl rfl) rfl ⟨⟨none, HW.out _ HF2.out.symm, 80, by decide, rfl⟩, ((Below.refl _ w).alloc (Nat.le_refl _) _).alloc (by simp) _⟩
  | true =>
    rw [hn] at KN HF
    have HF2 := Lib.hid (HF.out.trans (if_pos rfl))
    have K3 := Lib.hid (clone_any (s.extract 0 n) ((w.alloc (.cells zw 55)).alloc (.cells #[.int .i64 2, .string (s.extract 0 n), .int .i64 v, .string ⟨#[]⟩, .int .i64 0, .int .i64 0, .int .i64 0, .int .i64 0, .int .i64 0, .int .i64 0, .int .i64 0] 55)) (by rw [ByteArray.size_extract]; omega))
    go_enter Tryz.func58, Tryz.ntmps58
    go_wp2_with (first | (go_at_call 54; refine (K1.out _).mono ?_; rintro e w' ⟨rfl, rfl⟩) | (go_at_call 90; refine (K1d.out _).mono ?_; rintro e w' ⟨rfl, rfl⟩) | (go_at_call 92; refine (KN.out _).mono ?_; rintro e w' ⟨rfl, rfl⟩) | (go_at_call 55; refine (K2.out _).mono ?_; rintro e w' ⟨rfl, rfl⟩))
    refine K3.out.mono ?_
    rintro e w1 ⟨rfl, hb1⟩
    have hg0 := ((Blk.new w 55 zw).alloc (.cells #[.int .i64 2, .string (s.extract 0 n), .int .i64 v, .string ⟨#[]⟩, .int .i64 0, .int .i64 0, .int .i64 0, .int .i64 0, .int .i64 0, .int .i64 0, .int .i64 0] 55)).below hb1 (by simp; omega)
    have hg1 : Blk w1 (w.heap.size + 1) 55 #[.int .i64 2, .string (s.extract 0 n), .int .i64 v, .string ⟨#[]⟩, .int .i64 0, .int .i64 0, .int .i64 0, .int .i64 0, .int .i64 0, .int .i64 0, .int .i64 0] := by
      have := (Blk.new (w.alloc (.cells zw 55)) 55 #[.int .i64 2, .string (s.extract 0 n), .int .i64 v, .string ⟨#[]⟩, .int .i64 0, .int .i64 0, .int .i64 0, .int .i64 0, .int .i64 0, .int .i64 0, .int .i64 0]).below hb1 (by simp)
      simpa using this
    have hx := Lib.hid (bytes_eq (ext_to s n))
    have hB1 : Below w.heap.size w w1 := ((((Below.refl _ w).alloc (Nat.le_refl _) (.cells zw 55)).alloc (by simp) (.cells #[.int .i64 2, .string (s.extract 0 n), .int .i64 v, .string ⟨#[]⟩, .int .i64 0, .int .i64 0, .int .i64 0, .int .i64 0, .int .i64 0, .int .i64 0, .int .i64 0] 55))).trans (hb1.mono (by simp; omega))
    have hfar := hg0.far (p := ⟨w.heap.size + 1, 1, none⟩) (by simp) (.string (s.extract 0 n))
    have hr := Lib.hid (wrote11 (w := w) hfar (hB1.setCell (p := ⟨w.heap.size + 1, 1, none⟩) (by simp) (.string (s.extract 0 n))) (Nat.le_refl _) (.int .i64 2) (.string (s.extract 0 n)) (.int .i64 v) (.string ⟨#[]⟩) (.int .i64 0) (.int .i64 0) (.int .i64 0) (.int .i64 0) (.int .i64 0) (.int .i64 0) (.int .i64 0))
    have p0 : w1.cell? ⟨w.heap.size + 1, 0, none⟩ = some (.int .i64 2) := hg1.cell 0
    have p1 : w1.cell? ⟨w.heap.size + 1, 1, none⟩ = some (.string (s.extract 0 n)) := hg1.cell 1
    have p2 : w1.cell? ⟨w.heap.size + 1, 2, none⟩ = some (.int .i64 v) := hg1.cell 2
    have p3 : w1.cell? ⟨w.heap.size + 1, 3, none⟩ = some (.string ⟨#[]⟩) := hg1.cell 3
    have p4 : w1.cell? ⟨w.heap.size + 1, 4, none⟩ = some (.int .i64 0) := hg1.cell 4
    have p5 : w1.cell? ⟨w.heap.size + 1, 5, none⟩ = some (.int .i64 0) := hg1.cell 5
    have p6 : w1.cell? ⟨w.heap.size + 1, 6, none⟩ = some (.int .i64 0) := hg1.cell 6
    have p7 : w1.cell? ⟨w.heap.size + 1, 7, none⟩ = some (.int .i64 0) := hg1.cell 7
    have p8 : w1.cell? ⟨w.heap.size + 1, 8, none⟩ = some (.int .i64 0) := hg1.cell 8
    have p9 : w1.cell? ⟨w.heap.size + 1, 9, none⟩ = some (.int .i64 0) := hg1.cell 9
    have p10 : w1.cell? ⟨w.heap.size + 1, 10, none⟩ = some (.int .i64 0) := hg1.cell 10
    have f1 := hg1.frozen 1
    have r0 := hg0.cell
    have q0 := hg0.frozen
    clear hfar hB1 hb1 hg0 hg1
    go_wp2_with fail
    refine bodyPost_ret (word_res hr.out.1 rfl rfl rfl rfl) rfl ⟨⟨some _, HW.out _ HF2.out.symm, _, ⟨_, ⟨⟨#[]⟩, 0, 0, 0, 0, 0, rfl⟩, rfl⟩, ?_⟩, hr.out.2⟩
    rw [hx.out]
    rfl
end Go.Proofs.YtjikgmbhnknojaaGreatDoor
