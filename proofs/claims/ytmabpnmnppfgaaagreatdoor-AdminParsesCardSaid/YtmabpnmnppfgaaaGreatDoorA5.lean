/- Part A5 of the proof: the statement that is proved stands in the text that ends with its name. No conditions beyond the card's. -/
import Derived.Test.YtmabpnmnppfgaaaGreatDoorA4
namespace Go.Proofs.YtmabpnmnppfgaaaGreatDoor
set_option linter.unusedVariables false
open Go Go.RowKit Go.BigFrame
theorem bytes_eq {s : ByteArray} {l : List UInt8} (h : s.data.toList = l) : s = ⟨l.toArray⟩ := by
  subst h
  cases s
  simp
set_option maxRecDepth 100000 in
set_option maxHeartbeats 1600000 in
theorem word_name (s : ByteArray) (w : World) (hs : s.size ≤ 100000) (h0 : 0 < s.size) (hl : Ad.letter s[0] = true) :
    Calls Tryz.prog 131 #[.string s] w fun e w' => WordOut s e ∧ Below w.heap.size w w' := by
  have hi1 : ∀ W : World, (Instr.index 9 (.string s) (.int .i64 0)).run Tryz.prog W = .ok (.int .u8 (s[0].toNat : Int)) W := fun W => idx_atu s 0 (by omega) rfl W
  have hc := s[0].toNat_lt
  obtain ⟨r, hd⟩ : ∃ r, s.data.toList = s[0] :: r := ⟨s.data.toList.drop 1, by
    have := List.drop_eq_getElem_cons (l := s.data.toList) (i := 0) (by simpa using h0)
    rw [List.drop_zero] at this
    exact this⟩
  have HF := Lib.hid (show Ad.wordX s.data.toList = if 32 < Ad.run Ad.nameC s.data.toList then .error 2 else .ok (⟨1, s.data.toList.take (Ad.run Ad.nameC s.data.toList), 0⟩, Ad.run Ad.nameC s.data.toList) from by
    generalize s.data.toList = L at *
    subst hd
    unfold Ad.wordX
    simp only [hl, if_true])
  generalize s[0] = c at *
  have K1 := Lib.hid (show ∀ W : World, Calls Tryz.prog 136 #[.int .u8 (c.toNat : Int)] W fun e w' => e = .returned (.bool true) ∧ w' = W from fun W => by
    have := letter_any c W
    rwa [hl] at this)
  have hle : Ad.run Ad.nameC s.data.toList ≤ s.size := by have := Ad.run_le Ad.nameC s.data.toList; rwa [len_size] at this
  have K2 : ∀ W : World, _ := fun W => runName_any s W (by omega)
  generalize Ad.run Ad.nameC s.data.toList = n at *
  have K2 := Lib.hid K2
  clear hd hl
  by_cases hn : 32 < n
  · have HF2 := Lib.hid (HF.out.trans (if_pos hn))
    have hr := Lib.hid (wrote11 (w := w) (W := (w.alloc (.cells zw 71)).alloc (.cells zw 71)) (g := w.heap.size) ((Blk.new w _ _).alloc _) (((Below.refl _ w).alloc (Nat.le_refl _) _).alloc (by simp) _) (Nat.le_refl _) (.int .i64 0) (.string ⟨#[]⟩) (.int .i64 0) (.string ⟨#[]⟩) (.int .i64 0) (.int .i64 0) (.int .i64 0) (.int .i64 0) (.int .i64 0) (.int .i64 0) (.int .i64 0))
    go_enter Tryz.func131, Tryz.ntmps131
    go_wp2_with (first | (go_at_call 136; refine (K1.out _).mono ?_; rintro e w' ⟨rfl, rfl⟩) | (go_at_call 137; refine (K2.out _).mono ?_; rintro e w' ⟨rfl, rfl⟩))
    refine bodyPost_ret (word_res ((Blk.new w _ _).alloc _) rfl rfl rfl rfl) rfl ⟨WordOut.bad HF2.out, ((Below.refl _ w).alloc (Nat.le_refl _) _).alloc (by simp) _⟩
  · have HF2 := Lib.hid (HF.out.trans (if_neg hn))
    have K3 := Lib.hid (clone_any (s.extract 0 n) ((w.alloc (.cells zw 71)).alloc (.cells #[.int .i64 1, .string (s.extract 0 n), .int .i64 0, .string ⟨#[]⟩, .int .i64 0, .int .i64 0, .int .i64 0, .int .i64 0, .int .i64 0, .int .i64 0, .int .i64 0] 71)) (by rw [ByteArray.size_extract]; omega))
    go_enter Tryz.func131, Tryz.ntmps131
    go_wp2_with (first | (go_at_call 136; refine (K1.out _).mono ?_; rintro e w' ⟨rfl, rfl⟩) | (go_at_call 137; refine (K2.out _).mono ?_; rintro e w' ⟨rfl, rfl⟩))
    refine K3.out.mono ?_
    rintro e w1 ⟨rfl, hb1⟩
    have hg0 := ((Blk.new w 71 zw).alloc (.cells #[.int .i64 1, .string (s.extract 0 n), .int .i64 0, .string ⟨#[]⟩, .int .i64 0, .int .i64 0, .int .i64 0, .int .i64 0, .int .i64 0, .int .i64 0, .int .i64 0] 71)).below hb1 (by simp; omega)
    have hg1 : Blk w1 (w.heap.size + 1) 71 #[.int .i64 1, .string (s.extract 0 n), .int .i64 0, .string ⟨#[]⟩, .int .i64 0, .int .i64 0, .int .i64 0, .int .i64 0, .int .i64 0, .int .i64 0, .int .i64 0] := by
      have := (Blk.new (w.alloc (.cells zw 71)) 71 #[.int .i64 1, .string (s.extract 0 n), .int .i64 0, .string ⟨#[]⟩, .int .i64 0, .int .i64 0, .int .i64 0, .int .i64 0, .int .i64 0, .int .i64 0, .int .i64 0]).below hb1 (by simp)
      simpa using this
    have hx := Lib.hid (bytes_eq (ext_to s n))
    have hB1 : Below w.heap.size w w1 := ((((Below.refl _ w).alloc (Nat.le_refl _) (.cells zw 71)).alloc (by simp) (.cells #[.int .i64 1, .string (s.extract 0 n), .int .i64 0, .string ⟨#[]⟩, .int .i64 0, .int .i64 0, .int .i64 0, .int .i64 0, .int .i64 0, .int .i64 0, .int .i64 0] 71))).trans (hb1.mono (by simp; omega))
    have hfar := hg0.far (p := ⟨w.heap.size + 1, 1, none⟩) (by simp) (.string (s.extract 0 n))
    have hr := Lib.hid (wrote11 (w := w) hfar (hB1.setCell (p := ⟨w.heap.size + 1, 1, none⟩) (by simp) (.string (s.extract 0 n))) (Nat.le_refl _) (.int .i64 1) (.string (s.extract 0 n)) (.int .i64 0) (.string ⟨#[]⟩) (.int .i64 0) (.int .i64 0) (.int .i64 0) (.int .i64 0) (.int .i64 0) (.int .i64 0) (.int .i64 0))
    have p0 : w1.cell? ⟨w.heap.size + 1, 0, none⟩ = some (.int .i64 1) := hg1.cell 0
    have p1 : w1.cell? ⟨w.heap.size + 1, 1, none⟩ = some (.string (s.extract 0 n)) := hg1.cell 1
    have p2 : w1.cell? ⟨w.heap.size + 1, 2, none⟩ = some (.int .i64 0) := hg1.cell 2
    have p3 : w1.cell? ⟨w.heap.size + 1, 3, none⟩ = some (.string ⟨#[]⟩) := hg1.cell 3
    have p4 : w1.cell? ⟨w.heap.size + 1, 4, none⟩ = some (.int .i64 0) := hg1.cell 4
    have p5 : w1.cell? ⟨w.heap.size + 1, 5, none⟩ = some (.int .i64 0) := hg1.cell 5
    have p6 : w1.cell? ⟨w.heap.size + 1, 6, none⟩ = some (.int .i64 0) := hg1.cell 6
    have p7 : w1.cell? ⟨w.heap.size + 1, 7, none⟩ = some (.int .i64 0) := hg1.cell 7
    have p8 : w1.cell? ⟨w.heap.size + 1, 8, none⟩ = some (.int .i64 0) := hg1.cell 8
    have p9 : w1.cell? ⟨w.heap.size + 1, 9, none⟩ = some (.int .i64 0) := hg1.cell 9
    have p10 : w1.cell? ⟨w.heap.size + 1, 10, none⟩ = some (.int .i64 0) := hg1.cell 10
    have f1 := hg1.frozen 1
    have r0 := hg0.cell
    have q0 := hg0.frozen
    clear hfar hB1 hb1 hg0 hg1
    go_wp2_with fail
    refine bodyPost_ret (word_res hr.out.1 rfl rfl rfl rfl) rfl ⟨?_, hr.out.2⟩
    rw [hx.out]
    exact WordOut.good HF2.out ⟨_, ⟨⟨#[]⟩, 0, 0, 0, 0, 0, rfl⟩, rfl⟩
end Go.Proofs.YtmabpnmnppfgaaaGreatDoor
namespace Go.Proofs.YtmabpnmnppfgaaaGreatDoor
set_option linter.unusedVariables false
open Go Go.RowKit Go.BigFrame
set_option maxRecDepth 100000 in
set_option maxHeartbeats 1600000 in
theorem word_num (s : ByteArray) (w : World) (hs : s.size ≤ 100000) (h0 : 0 < s.size) (hl0 : Ad.letter s[0] = false) (hl : Ad.digit s[0] = true) :
    Calls Tryz.prog 131 #[.string s] w fun e w' => WordOut s e ∧ Below w.heap.size w w' := by
  have hi1 : ∀ W : World, (Instr.index 9 (.string s) (.int .i64 0)).run Tryz.prog W = .ok (.int .u8 (s[0].toNat : Int)) W := fun W => idx_atu s 0 (by omega) rfl W
  have hc := s[0].toNat_lt
  obtain ⟨r, hd⟩ : ∃ r, s.data.toList = s[0] :: r := ⟨s.data.toList.drop 1, by
    have := List.drop_eq_getElem_cons (l := s.data.toList) (i := 0) (by simpa using h0)
    rw [List.drop_zero] at this
    exact this⟩
  have HF := Lib.hid (show Ad.wordX s.data.toList = if P.numOk (s.data.toList.take (Ad.run Ad.digit s.data.toList)) = true then .ok (⟨2, s.data.toList.take (Ad.run Ad.digit s.data.toList), P.numV (s.data.toList.take (Ad.run Ad.digit s.data.toList))⟩, Ad.run Ad.digit s.data.toList) else .error 80 from by
    generalize s.data.toList = L at *
    subst hd
    unfold Ad.wordX
    simp only [hl0, hl, if_true, Bool.false_eq_true, if_false])
  generalize s[0] = c at *
  have K1 := Lib.hid (show ∀ W : World, Calls Tryz.prog 136 #[.int .u8 (c.toNat : Int)] W fun e w' => e = .returned (.bool false) ∧ w' = W from fun W => by
    have := letter_any c W
    rwa [hl0] at this)
  have K1d := Lib.hid (show ∀ W : World, Calls Tryz.prog 213 #[.int .u8 (c.toNat : Int)] W fun e w' => e = .returned (.bool true) ∧ w' = W from fun W => by
    have := isDigit_any c W
    rwa [hl] at this)
  have hle : Ad.run Ad.digit s.data.toList ≤ s.size := by have := Ad.run_le Ad.digit s.data.toList; rwa [len_size] at this
  have K2 : ∀ W : World, _ := fun W => runDigit_any s W (by omega)
  generalize Ad.run Ad.digit s.data.toList = n at *
  have K2 := Lib.hid K2
  have KN := fun W => number_any (s.extract 0 n) W (by rw [ByteArray.size_extract]; unfold maxLen; omega)
  rw [ext_to s n] at KN
  unfold P.numE at KN
  have KN := Lib.hid KN
  clear hd hl hl0
  generalize hv : P.numV (s.data.toList.take n) = v at *
  cases hn : P.numOk (s.data.toList.take n) with
  | false =>
    rw [hn] at KN HF
    have HF2 := Lib.hid (HF.out.trans (if_neg (by simp)))
    have hr := Lib.hid (wrote11 (w := w) (W := (w.alloc (.cells zw 71)).alloc (.cells zw 71)) (g := w.heap.size) ((Blk.new w _ _).alloc _) (((Below.refl _ w).alloc (Nat.le_refl _) _).alloc (by simp) _) (Nat.le_refl _) (.int .i64 0) (.string ⟨#[]⟩) (.int .i64 0) (.string ⟨#[]⟩) (.int .i64 0) (.int .i64 0) (.int .i64 0) (.int .i64 0) (.int .i64 0) (.int .i64 0) (.int .i64 0))
    go_enter Tryz.func131, Tryz.ntmps131
    go_wp2_with (first | (go_at_call 136; refine (K1.out _).mono ?_; rintro e w' ⟨rfl, rfl⟩) | (go_at_call 213; refine (K1d.out _).mono ?_; rintro e w' ⟨rfl, rfl⟩) | (go_at_call 214; refine (KN.out _).mono ?_; rintro e w' ⟨rfl, rfl⟩) | (go_at_call 137; refine (K2.out _).mono ?_; rintro e w' ⟨rfl, rfl⟩))
    refine bodyPost_ret (word_res ((Blk.new w _ _).alloc _) rfl rfl rfl rfl) rfl ⟨WordOut.bad HF2.out, ((Below.refl _ w).alloc (Nat.le_refl _) _).alloc (by simp) _⟩
  | true =>
    rw [hn] at KN HF
    have HF2 := Lib.hid (HF.out.trans (if_pos rfl))
    have K3 := Lib.hid (clone_any (s.extract 0 n) ((w.alloc (.cells zw 71)).alloc (.cells #[.int .i64 2, .string (s.extract 0 n), .int .i64 v, .string ⟨#[]⟩, .int .i64 0, .int .i64 0, .int .i64 0, .int .i64 0, .int .i64 0, .int .i64 0, .int .i64 0] 71)) (by rw [ByteArray.size_extract]; omega))
    go_enter Tryz.func131, Tryz.ntmps131
    go_wp2_with (first | (go_at_call 136; refine (K1.out _).mono ?_; rintro e w' ⟨rfl, rfl⟩) | (go_at_call 213; refine (K1d.out _).mono ?_; rintro e w' ⟨rfl, rfl⟩) | (go_at_call 214; refine (KN.out _).mono ?_; rintro e w' ⟨rfl, rfl⟩) | (go_at_call 137; refine (K2.out _).mono ?_; rintro e w' ⟨rfl, rfl⟩))
    refine K3.out.mono ?_
    rintro e w1 ⟨rfl, hb1⟩
    have hg0 := ((Blk.new w 71 zw).alloc (.cells #[.int .i64 2, .string (s.extract 0 n), .int .i64 v, .string ⟨#[]⟩, .int .i64 0, .int .i64 0, .int .i64 0, .int .i64 0, .int .i64 0, .int .i64 0, .int .i64 0] 71)).below hb1 (by simp; omega)
    have hg1 : Blk w1 (w.heap.size + 1) 71 #[.int .i64 2, .string (s.extract 0 n), .int .i64 v, .string ⟨#[]⟩, .int .i64 0, .int .i64 0, .int .i64 0, .int .i64 0, .int .i64 0, .int .i64 0, .int .i64 0] := by
      have := (Blk.new (w.alloc (.cells zw 71)) 71 #[.int .i64 2, .string (s.extract 0 n), .int .i64 v, .string ⟨#[]⟩, .int .i64 0, .int .i64 0, .int .i64 0, .int .i64 0, .int .i64 0, .int .i64 0, .int .i64 0]).below hb1 (by simp)
      simpa using this
    have hx := Lib.hid (bytes_eq (ext_to s n))
    have hB1 : Below w.heap.size w w1 := ((((Below.refl _ w).alloc (Nat.le_refl _) (.cells zw 71)).alloc (by simp) (.cells #[.int .i64 2, .string (s.extract 0 n), .int .i64 v, .string ⟨#[]⟩, .int .i64 0, .int .i64 0, .int .i64 0, .int .i64 0, .int .i64 0, .int .i64 0, .int .i64 0] 71))).trans (hb1.mono (by simp; omega))
    have hfar := hg0.far (p := ⟨w.heap.size + 1, 1, none⟩) (by simp) (.string (s.extract 0 n))
    have hr := Lib.hid (wrote11 (w := w) hfar (hB1.setCell (p := ⟨w.heap.size + 1, 1, none⟩) (by simp) (.string (s.extract 0 n))) (Nat.le_refl _) (.int .i64 2) (.string (s.extract 0 n)) (.int .i64 v) (.string ⟨#[]⟩) (.int .i64 0) (.int .i64 0) (.int .i64 0) (.int .i64 0) (.int .i64 0) (.int .i64 0) (.int .i64 0))
    have p0 : w1.cell? ⟨w.heap.size + 1, 0, none⟩ = some (.int .i64 2) := hg1.cell 0
    have p1 : w1.cell? ⟨w.heap.size + 1, 1, none⟩ = some (.string (s.extract 0 n)) := hg1.cell 1
    have p2 : w1.cell? ⟨w.heap.size + 1, 2, none⟩ = some (.int .i64 v) := hg1.cell 2
    have p3 : w1.cell? ⟨w.heap.size + 1, 3, none⟩ = some (.string ⟨#[]⟩) := hg1.cell 3
    have p4 : w1.cell? ⟨w.heap.size + 1, 4, none⟩ = some (.int .i64 0) := hg1.cell 4
    have p5 : w1.cell? ⟨w.heap.size + 1, 5, none⟩ = some (.int .i64 0) := hg1.cell 5
    have p6 : w1.cell? ⟨w.heap.size + 1, 6, none⟩ = some (.int .i64 0) := hg1.cell 6
    have p7 : w1.cell? ⟨w.heap.size + 1, 7, none⟩ = some (.int .i64 0) := hg1.cell 7
    have p8 : w1.cell? ⟨w.heap.size + 1, 8, none⟩ = some (.int .i64 0) := hg1.cell 8
    have p9 : w1.cell? ⟨w.heap.size + 1, 9, none⟩ = some (.int .i64 0) := hg1.cell 9
    have p10 : w1.cell? ⟨w.heap.size + 1, 10, none⟩ = some (.int .i64 0) := hg1.cell 10
    have f1 := hg1.frozen 1
    have r0 := hg0.cell
    have q0 := hg0.frozen
    clear hfar hB1 hb1 hg0 hg1
    go_wp2_with fail
    refine bodyPost_ret (word_res hr.out.1 rfl rfl rfl rfl) rfl ⟨?_, hr.out.2⟩
    rw [hx.out]
    exact WordOut.good HF2.out ⟨_, ⟨⟨#[]⟩, 0, 0, 0, 0, 0, rfl⟩, rfl⟩
end Go.Proofs.YtmabpnmnppfgaaaGreatDoor
namespace Go.Proofs.YtmabpnmnppfgaaaGreatDoor
set_option linter.unusedVariables false
open Go Go.RowKit Go.BigFrame
set_option maxRecDepth 100000 in
set_option maxHeartbeats 1600000 in
theorem word_text (s : ByteArray) (w : World) (hs : s.size ≤ 100000) (h0 : 0 < s.size) (hl0 : Ad.letter s[0] = false) (hl : Ad.digit s[0] = false) (hq : s[0].toNat = 34) :
    Calls Tryz.prog 131 #[.string s] w fun e w' => WordOut s e ∧ Below w.heap.size w w' := by
  have hi1 : ∀ W : World, (Instr.index 9 (.string s) (.int .i64 0)).run Tryz.prog W = .ok (.int .u8 (s[0].toNat : Int)) W := fun W => idx_atu s 0 (by omega) rfl W
  have hc := s[0].toNat_lt
  obtain ⟨r, hd⟩ : ∃ r, s.data.toList = s[0] :: r := ⟨s.data.toList.drop 1, by
    have := List.drop_eq_getElem_cons (l := s.data.toList) (i := 0) (by simpa using h0)
    rw [List.drop_zero] at this
    exact this⟩
  have hr : s.data.toList.drop 1 = r := by rw [hd]; rfl
  have HF := Lib.hid (show Ad.wordX s.data.toList = match Ad.text r with | none => .error 80 | some (v, n) => if 4096 < v.length then .error 2 else .ok (⟨3, v, 0⟩, n + 1) from by
    generalize s.data.toList = L at *
    subst hd
    unfold Ad.wordX
    simp only [hl0, hl, hq, Bool.false_eq_true, if_false, if_true]
    rfl)
  generalize s[0] = c at *
  have K1 := Lib.hid (show ∀ W : World, Calls Tryz.prog 136 #[.int .u8 (c.toNat : Int)] W fun e w' => e = .returned (.bool false) ∧ w' = W from fun W => by
    have := letter_any c W
    rwa [hl0] at this)
  have K1d := Lib.hid (show ∀ W : World, Calls Tryz.prog 213 #[.int .u8 (c.toNat : Int)] W fun e w' => e = .returned (.bool false) ∧ w' = W from fun W => by
    have := isDigit_any c W
    rwa [hl] at this)
  have KT := text_any s ((w.alloc (.cells zw 71)).alloc (.cells zw 71)) (by omega) h0
  rw [hr] at KT
  have hq2 : ((c.toNat : Int) == 34) = true := by rw [hq]; rfl
  clear hd hl hl0 hq hr
  unfold Ad.textV Ad.textN at KT
  cases ht : Ad.text r with
  | none =>
    rw [ht] at KT HF
    have KT := Lib.hid KT
    have HF2 := Lib.hid (show Ad.wordX s.data.toList = .error 80 from HF.out)
    go_enter Tryz.func131, Tryz.ntmps131
    go_wp2_with (first | (go_at_call 136; refine (K1.out _).mono ?_; rintro e w' ⟨rfl, rfl⟩) | (go_at_call 213; refine (K1d.out _).mono ?_; rintro e w' ⟨rfl, rfl⟩))
    refine KT.out.mono ?_
    rintro e w1 ⟨rfl, hb1⟩
    have hg0 := ((Blk.new w 71 zw).alloc (.cells zw 71)).below hb1 (by simp; omega)
    have hB1 : Below w.heap.size w w1 := ((((Below.refl _ w).alloc (Nat.le_refl _) (.cells zw 71)).alloc (by simp) (.cells zw 71))).trans (hb1.mono (by simp; omega))
    have hr := Lib.hid (wrote11 (w := w) hg0 hB1 (Nat.le_refl _) (.int .i64 0) (.string ⟨#[]⟩) (.int .i64 0) (.string ⟨#[]⟩) (.int .i64 0) (.int .i64 0) (.int .i64 0) (.int .i64 0) (.int .i64 0) (.int .i64 0) (.int .i64 0))
    have r0 := hg0.cell
    have q0 := hg0.frozen
    clear hB1 hb1 hg0
    go_wp2_with fail
    refine bodyPost_ret (word_res hr.out.1 rfl rfl rfl rfl) rfl ⟨WordOut.bad HF2.out, hr.out.2⟩
  | some y =>
    obtain ⟨v, m⟩ := y
    rw [ht] at KT HF
    have HF := Lib.hid (show Ad.wordX s.data.toList = if 4096 < v.length then .error 2 else .ok (⟨3, v, 0⟩, m + 1) from HF.out)
    have htl := Ad.text_len _ r v m (Nat.le_refl _) ht
    obtain ⟨tb, htb⟩ : ∃ tb : ByteArray, tb = ⟨v.toArray⟩ := ⟨_, rfl⟩
    have hts : tb.size = v.length := by rw [htb, mk_size]
    have HTB := Lib.hid htb
    simp only at KT
    rw [← htb] at KT
    have KT := Lib.hid KT
    have hm0 : (((m + 1 : Nat) : Int) == 0) = false := by rw [beq_eq_false_iff_ne]; omega
    clear htb ht
    by_cases hlen : 4096 < v.length
    · have HF2 := Lib.hid (HF.out.trans (if_pos hlen))
      have hl2 : 4096 < tb.size := by omega
      clear hlen hts
      go_enter Tryz.func131, Tryz.ntmps131
      go_wp2_with (first | (go_at_call 136; refine (K1.out _).mono ?_; rintro e w' ⟨rfl, rfl⟩) | (go_at_call 213; refine (K1d.out _).mono ?_; rintro e w' ⟨rfl, rfl⟩))
      refine KT.out.mono ?_
      rintro e w1 ⟨rfl, hb1⟩
      have hg0 := ((Blk.new w 71 zw).alloc (.cells zw 71)).below hb1 (by simp; omega)
      have hB1 : Below w.heap.size w w1 := ((((Below.refl _ w).alloc (Nat.le_refl _) (.cells zw 71)).alloc (by simp) (.cells zw 71))).trans (hb1.mono (by simp; omega))
      have hr := Lib.hid (wrote11 (w := w) hg0 hB1 (Nat.le_refl _) (.int .i64 0) (.string ⟨#[]⟩) (.int .i64 0) (.string ⟨#[]⟩) (.int .i64 0) (.int .i64 0) (.int .i64 0) (.int .i64 0) (.int .i64 0) (.int .i64 0) (.int .i64 0))
      have r0 := hg0.cell
      have q0 := hg0.frozen
      clear hB1 hb1 hg0
      go_wp2_with fail
      refine bodyPost_ret (word_res hr.out.1 rfl rfl rfl rfl) rfl ⟨WordOut.bad HF2.out, hr.out.2⟩
    · have HF2 := Lib.hid (HF.out.trans (if_neg hlen))
      have hl2 : ¬ 4096 < tb.size := by omega
      clear hlen hts
      go_enter Tryz.func131, Tryz.ntmps131
      go_wp2_with (first | (go_at_call 136; refine (K1.out _).mono ?_; rintro e w' ⟨rfl, rfl⟩) | (go_at_call 213; refine (K1d.out _).mono ?_; rintro e w' ⟨rfl, rfl⟩))
      refine KT.out.mono ?_
      rintro e w1 ⟨rfl, hb1⟩
      have hg0 := ((Blk.new w 71 zw).alloc (.cells zw 71)).below hb1 (by simp; omega)
      have hg1 : Blk w1 (w.heap.size + 1) 71 zw := by
        have := (Blk.new (w.alloc (.cells zw 71)) 71 zw).below hb1 (by simp)
        simpa using this
      have hB1 : Below w.heap.size w w1 := ((((Below.refl _ w).alloc (Nat.le_refl _) (.cells zw 71)).alloc (by simp) (.cells zw 71))).trans (hb1.mono (by simp; omega))
      obtain ⟨hA, hB2⟩ := wrote11 (w := w) hg1 hB1 (by omega) (.int .i64 3) (.string tb) (.int .i64 0) (.string ⟨#[]⟩) (.int .i64 0) (.int .i64 0) (.int .i64 0) (.int .i64 0) (.int .i64 0) (.int .i64 0) (.int .i64 0)
      have hfar0 := (((((((((((hg0.far (p := ⟨w.heap.size + 1, 0, none⟩) (by simp) (.int .i64 3)).far (p := ⟨w.heap.size + 1, 1, none⟩) (by simp) (.string tb)).far (p := ⟨w.heap.size + 1, 2, none⟩) (by simp) (.int .i64 0)).far (p := ⟨w.heap.size + 1, 3, none⟩) (by simp) (.string ⟨#[]⟩)).far (p := ⟨w.heap.size + 1, 4, none⟩) (by simp) (.int .i64 0)).far (p := ⟨w.heap.size + 1, 5, none⟩) (by simp) (.int .i64 0)).far (p := ⟨w.heap.size + 1, 6, none⟩) (by simp) (.int .i64 0)).far (p := ⟨w.heap.size + 1, 7, none⟩) (by simp) (.int .i64 0)).far (p := ⟨w.heap.size + 1, 8, none⟩) (by simp) (.int .i64 0)).far (p := ⟨w.heap.size + 1, 9, none⟩) (by simp) (.int .i64 0)).far (p := ⟨w.heap.size + 1, 10, none⟩) (by simp) (.int .i64 0))
      have K3 := Lib.hid (clone_any tb (((((((((((w1.setCell ⟨w.heap.size + 1, 0, none⟩ (.int .i64 3)).setCell ⟨w.heap.size + 1, 1, none⟩ (.string tb)).setCell ⟨w.heap.size + 1, 2, none⟩ (.int .i64 0)).setCell ⟨w.heap.size + 1, 3, none⟩ (.string ⟨#[]⟩)).setCell ⟨w.heap.size + 1, 4, none⟩ (.int .i64 0)).setCell ⟨w.heap.size + 1, 5, none⟩ (.int .i64 0)).setCell ⟨w.heap.size + 1, 6, none⟩ (.int .i64 0)).setCell ⟨w.heap.size + 1, 7, none⟩ (.int .i64 0)).setCell ⟨w.heap.size + 1, 8, none⟩ (.int .i64 0)).setCell ⟨w.heap.size + 1, 9, none⟩ (.int .i64 0)).setCell ⟨w.heap.size + 1, 10, none⟩ (.int .i64 0)) (by omega))
      have r0 := hg1.cell
      have q0 := hg1.frozen
      have HH := Lib.hid (And.intro hA (And.intro hB2 hfar0))
      clear hA hB2 hfar0 hB1 hb1 hg0 hg1
      go_wp2_with fail
      refine K3.out.mono ?_
      rintro e w2 ⟨rfl, hb2⟩
      clear r0 q0
      have hg1b := HH.out.1.below hb2 HH.out.1.lt
      have hg0b := HH.out.2.2.below hb2 HH.out.2.2.lt
      have hB3 := HH.out.2.1.trans (hb2.mono HH.out.2.1.size)
      have hfar := hg0b.far (p := ⟨w.heap.size + 1, 1, none⟩) (by simp) (.string tb)
      have hr := Lib.hid (wrote11 (w := w) hfar (hB3.setCell (p := ⟨w.heap.size + 1, 1, none⟩) (by simp) (.string tb)) (Nat.le_refl _) (.int .i64 3) (.string tb) (.int .i64 0) (.string ⟨#[]⟩) (.int .i64 0) (.int .i64 0) (.int .i64 0) (.int .i64 0) (.int .i64 0) (.int .i64 0) (.int .i64 0))
      have p0 : w2.cell? ⟨w.heap.size + 1, 0, none⟩ = some (.int .i64 3) := hg1b.cell 0
      have p1 : w2.cell? ⟨w.heap.size + 1, 1, none⟩ = some (.string tb) := hg1b.cell 1
      have p2 : w2.cell? ⟨w.heap.size + 1, 2, none⟩ = some (.int .i64 0) := hg1b.cell 2
      have p3 : w2.cell? ⟨w.heap.size + 1, 3, none⟩ = some (.string ⟨#[]⟩) := hg1b.cell 3
      have p4 : w2.cell? ⟨w.heap.size + 1, 4, none⟩ = some (.int .i64 0) := hg1b.cell 4
      have p5 : w2.cell? ⟨w.heap.size + 1, 5, none⟩ = some (.int .i64 0) := hg1b.cell 5
      have p6 : w2.cell? ⟨w.heap.size + 1, 6, none⟩ = some (.int .i64 0) := hg1b.cell 6
      have p7 : w2.cell? ⟨w.heap.size + 1, 7, none⟩ = some (.int .i64 0) := hg1b.cell 7
      have p8 : w2.cell? ⟨w.heap.size + 1, 8, none⟩ = some (.int .i64 0) := hg1b.cell 8
      have p9 : w2.cell? ⟨w.heap.size + 1, 9, none⟩ = some (.int .i64 0) := hg1b.cell 9
      have p10 : w2.cell? ⟨w.heap.size + 1, 10, none⟩ = some (.int .i64 0) := hg1b.cell 10
      have f1 := hg1b.frozen 1
      have r0 := hg0b.cell
      have q0 := hg0b.frozen
      clear hfar hB3 hb2 hg0b hg1b HH
      go_wp2_with fail
      refine bodyPost_ret (word_res hr.out.1 rfl rfl rfl rfl) rfl ⟨?_, hr.out.2⟩
      rw [HTB.out]
      exact WordOut.good HF2.out ⟨_, ⟨⟨#[]⟩, 0, 0, 0, 0, 0, rfl⟩, rfl⟩
end Go.Proofs.YtmabpnmnppfgaaaGreatDoor
namespace Go.Proofs.YtmabpnmnppfgaaaGreatDoor
set_option linter.unusedVariables false
open Go Go.RowKit Go.BigFrame
set_option maxRecDepth 100000 in
set_option maxHeartbeats 1600000 in
theorem word_sign (s : ByteArray) (w : World) (hs : s.size ≤ 100000) (h0 : 0 < s.size) (hl0 : Ad.letter s[0] = false) (hl : Ad.digit s[0] = false) (hq : s[0].toNat ≠ 34) (hp : s[0].toNat ≠ 64) :
    Calls Tryz.prog 131 #[.string s] w fun e w' => WordOut s e ∧ Below w.heap.size w w' := by
  have hi1 : ∀ W : World, (Instr.index 9 (.string s) (.int .i64 0)).run Tryz.prog W = .ok (.int .u8 (s[0].toNat : Int)) W := fun W => idx_atu s 0 (by omega) rfl W
  have hc := s[0].toNat_lt
  obtain ⟨r, hd⟩ : ∃ r, s.data.toList = s[0] :: r := ⟨s.data.toList.drop 1, by
    have := List.drop_eq_getElem_cons (l := s.data.toList) (i := 0) (by simpa using h0)
    rw [List.drop_zero] at this
    exact this⟩
  have HF := Lib.hid (show Ad.wordX s.data.toList = if Ad.signN s.data.toList = 0 then .error 80 else .ok (⟨5, s.data.toList.take (Ad.signN s.data.toList), 0⟩, Ad.signN s.data.toList) from by
    generalize s.data.toList = L at *
    subst hd
    unfold Ad.wordX
    simp only [hl0, hl, hq, hp, Bool.false_eq_true, if_false])
  have hn := Ad.signN_len s.data.toList
  obtain ⟨n, hN⟩ : ∃ n, Ad.signN s.data.toList = n := ⟨_, rfl⟩
  rw [len_size, hN] at hn
  rw [hN] at HF
  generalize s[0] = c at *
  have K1 := Lib.hid (show ∀ W : World, Calls Tryz.prog 136 #[.int .u8 (c.toNat : Int)] W fun e w' => e = .returned (.bool false) ∧ w' = W from fun W => by
    have := letter_any c W
    rwa [hl0] at this)
  have K1d := Lib.hid (show ∀ W : World, Calls Tryz.prog 213 #[.int .u8 (c.toNat : Int)] W fun e w' => e = .returned (.bool false) ∧ w' = W from fun W => by
    have := isDigit_any c W
    rwa [hl] at this)
  have KS := Lib.hid (show ∀ W : World, Calls Tryz.prog 218 #[.string s] W fun e w' => e = .returned (.int .i64 (n : Nat)) ∧ w' = W from fun W => by
    have := sign_any s W (by omega) h0
    rwa [hN] at this)
  clear hN
  have y1 : ((c.toNat : Int) == 34) = false := by rw [beq_eq_false_iff_ne]; omega
  have y2 : ((c.toNat : Int) == 64) = false := by rw [beq_eq_false_iff_ne]; omega
  clear hd hl hl0 hq hp
  go_enter Tryz.func131, Tryz.ntmps131
  go_wp2_with (first | (go_at_call 136; refine (K1.out _).mono ?_; rintro e w' ⟨rfl, rfl⟩) | (go_at_call 213; refine (K1d.out _).mono ?_; rintro e w' ⟨rfl, rfl⟩))
  refine (KS.out _).mono ?_
  rintro e w' ⟨rfl, rfl⟩
  by_cases hn0 : n = 0
  · subst hn0
    have HF2 := Lib.hid (HF.out.trans (if_pos rfl))
    go_wp2_with fail
    refine bodyPost_ret (word_res ((Blk.new w _ _).alloc _) rfl rfl rfl rfl) rfl ⟨WordOut.bad HF2.out, ((Below.refl _ w).alloc (Nat.le_refl _) _).alloc (by simp) _⟩
  · have HF2 := Lib.hid (HF.out.trans (if_neg hn0))
    have hnq : ((n : Int) == 0) = false := by rw [beq_eq_false_iff_ne]; omega
    have K3 := Lib.hid (clone_any (s.extract 0 n) ((w.alloc (.cells zw 71)).alloc (.cells #[.int .i64 5, .string (s.extract 0 n), .int .i64 0, .string ⟨#[]⟩, .int .i64 0, .int .i64 0, .int .i64 0, .int .i64 0, .int .i64 0, .int .i64 0, .int .i64 0] 71)) (by rw [ByteArray.size_extract]; omega))
    go_wp2_with fail
    refine K3.out.mono ?_
    rintro e w1 ⟨rfl, hb1⟩
    have hg0 := ((Blk.new w 71 zw).alloc (.cells #[.int .i64 5, .string (s.extract 0 n), .int .i64 0, .string ⟨#[]⟩, .int .i64 0, .int .i64 0, .int .i64 0, .int .i64 0, .int .i64 0, .int .i64 0, .int .i64 0] 71)).below hb1 (by simp; omega)
    have hg1 : Blk w1 (w.heap.size + 1) 71 #[.int .i64 5, .string (s.extract 0 n), .int .i64 0, .string ⟨#[]⟩, .int .i64 0, .int .i64 0, .int .i64 0, .int .i64 0, .int .i64 0, .int .i64 0, .int .i64 0] := by
      have := (Blk.new (w.alloc (.cells zw 71)) 71 #[.int .i64 5, .string (s.extract 0 n), .int .i64 0, .string ⟨#[]⟩, .int .i64 0, .int .i64 0, .int .i64 0, .int .i64 0, .int .i64 0, .int .i64 0, .int .i64 0]).below hb1 (by simp)
      simpa using this
    have hx := Lib.hid (bytes_eq (ext_to s n))
    have hB1 : Below w.heap.size w w1 := ((((Below.refl _ w).alloc (Nat.le_refl _) (.cells zw 71)).alloc (by simp) (.cells #[.int .i64 5, .string (s.extract 0 n), .int .i64 0, .string ⟨#[]⟩, .int .i64 0, .int .i64 0, .int .i64 0, .int .i64 0, .int .i64 0, .int .i64 0, .int .i64 0] 71))).trans (hb1.mono (by simp; omega))
    have hfar := hg0.far (p := ⟨w.heap.size + 1, 1, none⟩) (by simp) (.string (s.extract 0 n))
    have hr := Lib.hid (wrote11 (w := w) hfar (hB1.setCell (p := ⟨w.heap.size + 1, 1, none⟩) (by simp) (.string (s.extract 0 n))) (Nat.le_refl _) (.int .i64 5) (.string (s.extract 0 n)) (.int .i64 0) (.string ⟨#[]⟩) (.int .i64 0) (.int .i64 0) (.int .i64 0) (.int .i64 0) (.int .i64 0) (.int .i64 0) (.int .i64 0))
    have p0 : w1.cell? ⟨w.heap.size + 1, 0, none⟩ = some (.int .i64 5) := hg1.cell 0
    have p1 : w1.cell? ⟨w.heap.size + 1, 1, none⟩ = some (.string (s.extract 0 n)) := hg1.cell 1
    have p2 : w1.cell? ⟨w.heap.size + 1, 2, none⟩ = some (.int .i64 0) := hg1.cell 2
    have p3 : w1.cell? ⟨w.heap.size + 1, 3, none⟩ = some (.string ⟨#[]⟩) := hg1.cell 3
    have p4 : w1.cell? ⟨w.heap.size + 1, 4, none⟩ = some (.int .i64 0) := hg1.cell 4
    have p5 : w1.cell? ⟨w.heap.size + 1, 5, none⟩ = some (.int .i64 0) := hg1.cell 5
    have p6 : w1.cell? ⟨w.heap.size + 1, 6, none⟩ = some (.int .i64 0) := hg1.cell 6
    have p7 : w1.cell? ⟨w.heap.size + 1, 7, none⟩ = some (.int .i64 0) := hg1.cell 7
    have p8 : w1.cell? ⟨w.heap.size + 1, 8, none⟩ = some (.int .i64 0) := hg1.cell 8
    have p9 : w1.cell? ⟨w.heap.size + 1, 9, none⟩ = some (.int .i64 0) := hg1.cell 9
    have p10 : w1.cell? ⟨w.heap.size + 1, 10, none⟩ = some (.int .i64 0) := hg1.cell 10
    have f1 := hg1.frozen 1
    have r0 := hg0.cell
    have q0 := hg0.frozen
    clear hfar hB1 hb1 hg0 hg1
    go_wp2_with fail
    refine bodyPost_ret (word_res hr.out.1 rfl rfl rfl rfl) rfl ⟨?_, hr.out.2⟩
    rw [hx.out]
    exact WordOut.good HF2.out ⟨_, ⟨⟨#[]⟩, 0, 0, 0, 0, 0, rfl⟩, rfl⟩
end Go.Proofs.YtmabpnmnppfgaaaGreatDoor
namespace Go.Proofs.YtmabpnmnppfgaaaGreatDoor
set_option linter.unusedVariables false
open Go Go.RowKit Go.BigFrame
set_option maxRecDepth 100000 in
set_option maxHeartbeats 1600000 in
theorem word_path (s : ByteArray) (w : World) (hs : s.size ≤ 100000) (h0 : 0 < s.size) (hl0 : Ad.letter s[0] = false) (hl : Ad.digit s[0] = false) (hp : s[0].toNat = 64) :
    Calls Tryz.prog 131 #[.string s] w fun e w' => WordOut s e ∧ Below w.heap.size w w' := by
  have hi1 : ∀ W : World, (Instr.index 9 (.string s) (.int .i64 0)).run Tryz.prog W = .ok (.int .u8 (s[0].toNat : Int)) W := fun W => idx_atu s 0 (by omega) rfl W
  have hc := s[0].toNat_lt
  obtain ⟨r, hd⟩ : ∃ r, s.data.toList = s[0] :: r := ⟨s.data.toList.drop 1, by
    have := List.drop_eq_getElem_cons (l := s.data.toList) (i := 0) (by simpa using h0)
    rw [List.drop_zero] at this
    exact this⟩
  have hr : (s.extract 1 s.size).data.toList = r := by rw [ext_end, hd]; rfl
  have HF := Lib.hid (show Ad.wordX s.data.toList = if Ad.pathOk (s.extract 1 (1 + Ad.run Ad.pathC (s.extract 1 s.size).data.toList)).data.toList = true then .ok (⟨4, (s.extract 1 (1 + Ad.run Ad.pathC (s.extract 1 s.size).data.toList)).data.toList, 0⟩, 1 + Ad.run Ad.pathC (s.extract 1 s.size).data.toList) else .error 80 from by
    rw [ext_mid, hr]
    generalize s.data.toList = L at *
    subst hd
    unfold Ad.wordX
    simp only [hl0, hl, hp, Bool.false_eq_true, if_false, if_true, show ¬ (64 : Nat) = 34 by decide, List.drop_succ_cons, List.drop_zero])
  generalize s[0] = c at *
  have K1 := Lib.hid (show ∀ W : World, Calls Tryz.prog 136 #[.int .u8 (c.toNat : Int)] W fun e w' => e = .returned (.bool false) ∧ w' = W from fun W => by
    have := letter_any c W
    rwa [hl0] at this)
  have K1d := Lib.hid (show ∀ W : World, Calls Tryz.prog 213 #[.int .u8 (c.toNat : Int)] W fun e w' => e = .returned (.bool false) ∧ w' = W from fun W => by
    have := isDigit_any c W
    rwa [hl] at this)
  have hle : Ad.run Ad.pathC (s.extract 1 s.size).data.toList ≤ s.size - 1 := by
    have := Ad.run_le Ad.pathC (s.extract 1 s.size).data.toList
    rw [len_size, ByteArray.size_extract] at this
    omega
  have KR : ∀ W : World, _ := fun W => runPath_any (s.extract 1 s.size) W (by rw [ByteArray.size_extract]; omega)
  generalize Ad.run Ad.pathC (s.extract 1 s.size).data.toList = n at *
  have KR := Lib.hid KR
  have y1 : ((c.toNat : Int) == 34) = false := by rw [hp]; rfl
  have y2 : ((c.toNat : Int) == 64) = true := by rw [hp]; rfl
  clear hd hl hl0 hp hr
  have KP := Lib.hid (fun (k : Nat) (W : World) => pathParse_any (s.extract 1 k) W (by rw [ByteArray.size_extract]; omega))
  go_enter Tryz.func131, Tryz.ntmps131
  go_wp2_with (first | (go_at_call 136; refine (K1.out _).mono ?_; rintro e w' ⟨rfl, rfl⟩) | (go_at_call 213; refine (K1d.out _).mono ?_; rintro e w' ⟨rfl, rfl⟩) | (go_at_call 137; refine (KR.out _).mono ?_; rintro e w' ⟨rfl, rfl⟩))
  refine (KP.out _ _).mono ?_
  rintro e w1 ⟨⟨cs, er, ⟨pt, pa, pb, pc, pd, pe, rfl⟩, hok, rfl⟩, hb1⟩
  have hg0 := (((Blk.new w 71 zw).alloc (.cells zw 71)).below hb1 (by simp; omega)).alloc (.cells #[.string pt, .int .i64 pa, .int .i64 pb, .int .i64 pc, .int .i64 pd, .int .i64 pe] 69)
  have hg1 : Blk (w1.alloc (.cells #[.string pt, .int .i64 pa, .int .i64 pb, .int .i64 pc, .int .i64 pd, .int .i64 pe] 69)) (w.heap.size + 1) 71 zw := by
    have := ((Blk.new (w.alloc (.cells zw 71)) 71 zw).below hb1 (by simp)).alloc (.cells #[.string pt, .int .i64 pa, .int .i64 pb, .int .i64 pc, .int .i64 pd, .int .i64 pe] 69)
    simpa using this
  have hg2 := Blk.new w1 69 #[.string pt, .int .i64 pa, .int .i64 pb, .int .i64 pc, .int .i64 pd, .int .i64 pe]
  have hz1 : w.heap.size + 2 ≤ w1.heap.size := by have := hb1.size; simpa using this
  have hB1 : Below w.heap.size w (w1.alloc (.cells #[.string pt, .int .i64 pa, .int .i64 pb, .int .i64 pc, .int .i64 pd, .int .i64 pe] 69)) := (((((Below.refl _ w).alloc (Nat.le_refl _) (.cells zw 71)).alloc (by simp) (.cells zw 71))).trans (hb1.mono (by simp; omega))).alloc (by omega) _
  have r0 := hg0.cell
  have q0 := hg0.frozen
  by_cases her : er = 0
  · have HF2 := Lib.hid (HF.out.trans (if_pos (hok.1 her)))
    subst her
    clear hok
    have r1 := hg1.cell
    have q1 := hg1.frozen
    have s0 : (w1.alloc (.cells #[.string pt, .int .i64 pa, .int .i64 pb, .int .i64 pc, .int .i64 pd, .int .i64 pe] 69)).cell? ⟨w1.heap.size, 0, none⟩ = some (.string pt) := hg2.cell 0
    have s1 : (w1.alloc (.cells #[.string pt, .int .i64 pa, .int .i64 pb, .int .i64 pc, .int .i64 pd, .int .i64 pe] 69)).cell? ⟨w1.heap.size, 1, none⟩ = some (.int .i64 pa) := hg2.cell 1
    have s2 : (w1.alloc (.cells #[.string pt, .int .i64 pa, .int .i64 pb, .int .i64 pc, .int .i64 pd, .int .i64 pe] 69)).cell? ⟨w1.heap.size, 2, none⟩ = some (.int .i64 pb) := hg2.cell 2
    have s3 : (w1.alloc (.cells #[.string pt, .int .i64 pa, .int .i64 pb, .int .i64 pc, .int .i64 pd, .int .i64 pe] 69)).cell? ⟨w1.heap.size, 3, none⟩ = some (.int .i64 pc) := hg2.cell 3
    have s4 : (w1.alloc (.cells #[.string pt, .int .i64 pa, .int .i64 pb, .int .i64 pc, .int .i64 pd, .int .i64 pe] 69)).cell? ⟨w1.heap.size, 4, none⟩ = some (.int .i64 pd) := hg2.cell 4
    have s5 : (w1.alloc (.cells #[.string pt, .int .i64 pa, .int .i64 pb, .int .i64 pc, .int .i64 pd, .int .i64 pe] 69)).cell? ⟨w1.heap.size, 5, none⟩ = some (.int .i64 pe) := hg2.cell 5
    have K3 := Lib.hid (fun W => clone_any (s.extract 1 (1 + n)) W (by rw [ByteArray.size_extract]; omega))
    obtain ⟨hA, hB2⟩ := wrote11 (w := w) hg1 hB1 (by omega) (.int .i64 4) (.string (s.extract 1 (1 + n))) (.int .i64 0) (.string pt) (.int .i64 pa) (.int .i64 pb) (.int .i64 pc) (.int .i64 pd) (.int .i64 pe) (.int .i64 0) (.int .i64 0)
    have hfar0 := (((((((((((hg0.far (p := ⟨w.heap.size + 1, 0, none⟩) (by simp) (.int .i64 4)).far (p := ⟨w.heap.size + 1, 1, none⟩) (by simp) (.string (s.extract 1 (1 + n)))).far (p := ⟨w.heap.size + 1, 2, none⟩) (by simp) (.int .i64 0)).far (p := ⟨w.heap.size + 1, 3, none⟩) (by simp) (.string pt)).far (p := ⟨w.heap.size + 1, 4, none⟩) (by simp) (.int .i64 pa)).far (p := ⟨w.heap.size + 1, 5, none⟩) (by simp) (.int .i64 pb)).far (p := ⟨w.heap.size + 1, 6, none⟩) (by simp) (.int .i64 pc)).far (p := ⟨w.heap.size + 1, 7, none⟩) (by simp) (.int .i64 pd)).far (p := ⟨w.heap.size + 1, 8, none⟩) (by simp) (.int .i64 pe)).far (p := ⟨w.heap.size + 1, 9, none⟩) (by simp) (.int .i64 0)).far (p := ⟨w.heap.size + 1, 10, none⟩) (by simp) (.int .i64 0))
    have HH := Lib.hid (And.intro hA.drew (And.intro hB2.drew hfar0.drew))
    clear hA hB2 hfar0
    clear hB1 hb1 hg0 hg1 hg2 hz1
    go_wp2_with fail
    go_region
    go_wp2_with fail
    refine (K3.out _).mono ?_
    rintro e w2 ⟨rfl, hb2⟩
    clear r0 q0 r1 q1 s0 s1 s2 s3 s4 s5
    have hg1b := HH.out.1.below hb2 HH.out.1.lt
    have hg0b := HH.out.2.2.below hb2 HH.out.2.2.lt
    have hB3 := HH.out.2.1.trans (hb2.mono HH.out.2.1.size)
    have hfar := hg0b.far (p := ⟨w.heap.size + 1, 1, none⟩) (by simp) (.string (s.extract 1 (1 + n)))
    have hr := Lib.hid (wrote11 (w := w) hfar (hB3.setCell (p := ⟨w.heap.size + 1, 1, none⟩) (by simp) (.string (s.extract 1 (1 + n)))) (Nat.le_refl _) (.int .i64 4) (.string (s.extract 1 (1 + n))) (.int .i64 0) (.string pt) (.int .i64 pa) (.int .i64 pb) (.int .i64 pc) (.int .i64 pd) (.int .i64 pe) (.int .i64 0) (.int .i64 0))
    have p0 : w2.cell? ⟨w.heap.size + 1, 0, none⟩ = some (.int .i64 4) := hg1b.cell 0
    have p1 : w2.cell? ⟨w.heap.size + 1, 1, none⟩ = some (.string (s.extract 1 (1 + n))) := hg1b.cell 1
    have p2 : w2.cell? ⟨w.heap.size + 1, 2, none⟩ = some (.int .i64 0) := hg1b.cell 2
    have p3 : w2.cell? ⟨w.heap.size + 1, 3, none⟩ = some (.string pt) := hg1b.cell 3
    have p4 : w2.cell? ⟨w.heap.size + 1, 4, none⟩ = some (.int .i64 pa) := hg1b.cell 4
    have p5 : w2.cell? ⟨w.heap.size + 1, 5, none⟩ = some (.int .i64 pb) := hg1b.cell 5
    have p6 : w2.cell? ⟨w.heap.size + 1, 6, none⟩ = some (.int .i64 pc) := hg1b.cell 6
    have p7 : w2.cell? ⟨w.heap.size + 1, 7, none⟩ = some (.int .i64 pd) := hg1b.cell 7
    have p8 : w2.cell? ⟨w.heap.size + 1, 8, none⟩ = some (.int .i64 pe) := hg1b.cell 8
    have p9 : w2.cell? ⟨w.heap.size + 1, 9, none⟩ = some (.int .i64 0) := hg1b.cell 9
    have p10 : w2.cell? ⟨w.heap.size + 1, 10, none⟩ = some (.int .i64 0) := hg1b.cell 10
    have f1 := hg1b.frozen 1
    have r0 := hg0b.cell
    have q0 := hg0b.frozen
    clear hfar hB3 hb2 hg0b hg1b HH
    go_wp2_with fail
    refine bodyPost_ret (word_res hr.out.1 rfl rfl rfl rfl) rfl ⟨WordOut.good HF2.out ⟨_, ⟨pt, pa, pb, pc, pd, pe, rfl⟩, rfl⟩, hr.out.2⟩
  · have HF2 := Lib.hid (HF.out.trans (if_neg fun h => her (hok.2 h)))
    clear hok
    have h1 : (er != 0) = true := by rw [bne_iff_ne]; exact her
    have hr := Lib.hid (wrote11 (w := w) hg0 hB1 (Nat.le_refl _) (.int .i64 0) (.string ⟨#[]⟩) (.int .i64 0) (.string ⟨#[]⟩) (.int .i64 0) (.int .i64 0) (.int .i64 0) (.int .i64 0) (.int .i64 0) (.int .i64 0) (.int .i64 0))
    clear hB1 hb1 hg0 hg1 hg2 hz1
    go_wp2_with fail
    refine bodyPost_ret (word_res hr.out.1 rfl rfl rfl rfl) rfl ⟨WordOut.bad HF2.out, hr.out.2⟩
end Go.Proofs.YtmabpnmnppfgaaaGreatDoor
namespace Go.Proofs.YtmabpnmnppfgaaaGreatDoor
set_option linter.unusedVariables false
open Go Go.RowKit Go.BigFrame
theorem word_any (s : ByteArray) (w : World) (hs : s.size ≤ 100000) (h0 : 0 < s.size) :
    Calls Tryz.prog 131 #[.string s] w fun e w' => WordOut s e ∧ Below w.heap.size w w' := by
  cases h1 : Ad.letter s[0] with
  | true => exact word_name s w hs h0 h1
  | false =>
    cases h2 : Ad.digit s[0] with
    | true => exact word_num s w hs h0 h1 h2
    | false =>
      by_cases h3 : s[0].toNat = 34
      · exact word_text s w hs h0 h1 h2 h3
      · by_cases h4 : s[0].toNat = 64
        · exact word_path s w hs h0 h1 h2 h4
        · exact word_sign s w hs h0 h1 h2 h3 h4
end Go.Proofs.YtmabpnmnppfgaaaGreatDoor
