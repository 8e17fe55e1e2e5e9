/- What delim.Of and the reference's Of return: the signs of a text's beginning, or the error; for every text. -/
import Derived.Test.YtefebcibcmjbaabDelim5
namespace Go.Proofs.Ytefebcibcmjbaab
set_option linter.unusedVariables false
open Go.RowKit Go.BigFrame
namespace P
/-- Does a text begin with sound signs? -/
def ofOk (l : List UInt8) : Bool :=
  decide (8 ≤ l.length ∧ l.take 3 = [77, 83, 72]) && (valid ((l.drop 3).take 5) && decide (l.length = 8 ∨ l.getD 8 0 = l.getD 3 0 ∨ l.getD 8 0 = 13 ∨ l.getD 8 0 = 10))
def ofV (l : List UInt8) (i : Nat) : UInt8 := if ofOk l = true then l.getD (3 + i) 0 else 0
def ofE (l : List UInt8) : Int := if ofOk l = true then 0 else 50
theorem pre_eq (t : ByteArray) : (t.extract 0 3).toList = t.data.toList.take 3 := by rw [ByteArray.toList_eq]; simp [ByteArray.data_extract]
theorem five (l : List UInt8) (h : 8 ≤ l.length) : (l.drop 3).take 5 = [l.getD 3 0, l.getD 4 0, l.getD 5 0, l.getD 6 0, l.getD 7 0] := by
  rcases l with _ | ⟨a0, _ | ⟨a1, _ | ⟨a2, _ | ⟨a3, _ | ⟨a4, _ | ⟨a5, _ | ⟨a6, _ | ⟨a7, l⟩⟩⟩⟩⟩⟩⟩⟩ <;> simp at h <;> simp
theorem ofOk_eq (t : ByteArray) (h : 8 ≤ t.size) (hm : (t.extract 0 3).toList = [77, 83, 72]) : ofOk t.data.toList = (valid [t.data.toList.getD 3 0, t.data.toList.getD 4 0, t.data.toList.getD 5 0, t.data.toList.getD 6 0, t.data.toList.getD 7 0] && decide (t.size = 8 ∨ t.data.toList.getD 8 0 = t.data.toList.getD 3 0 ∨ t.data.toList.getD 8 0 = 13 ∨ t.data.toList.getD 8 0 = 10)) := by
  have hl : t.data.toList.length = t.size := by simp
  unfold ofOk
  rw [decide_eq_true ⟨by omega, by rw [← pre_eq]; exact hm⟩, Bool.true_and, five _ (by omega), hl]
end P
theorem idx_at (s : ByteArray) (k : Nat) (hk : k < s.size) {i : Int} (hi : i = (k : Int)) (W : World) : (Instr.index 9 (.string s) (.int .i64 i)).run Try.prog W = .ok (.int .u8 (s[k].toNat : Int)) W := by
  subst hi
  simp [go_sem, hk]
theorem idx_val (s : ByteArray) (k : Nat) (hk : k < s.size) {i : Int} (hi : i = (k : Int)) : ∀ W : World, (Instr.index 9 (.string s) (.int .i64 i)).run Try.prog W = .ok (.int .u8 ((s.data.toList.getD k 0).toNat : Int)) W := fun W => by
  rw [idx_at s k hk hi W]
  congr 2
  have : s.data.toList.getD k 0 = s[k] := by
    rw [List.getD_eq_getElem?_getD, List.getElem?_eq_getElem (by simpa using hk)]
    rfl
  rw [this]
set_option maxRecDepth 100000 in
set_option maxHeartbeats 4000000 in
theorem of_any (t : ByteArray) (w : World) (ht : t.size ≤ maxLen) : Calls Try.prog 10 #[.string t] w fun x w' =>
    x = .returned (.tuple #[.agg #[.int .u8 ((P.ofV t.data.toList 0).toNat : Int), .int .u8 ((P.ofV t.data.toList 1).toNat : Int), .int .u8 ((P.ofV t.data.toList 2).toNat : Int), .int .u8 ((P.ofV t.data.toList 3).toNat : Int), .int .u8 ((P.ofV t.data.toList 4).toNat : Int)], .int .i64 (P.ofE t.data.toList)]) ∧ Below w.heap.size w w' := by
  unfold maxLen at ht
  have bad : P.ofOk t.data.toList = false → P.ofV t.data.toList 0 = 0 ∧ P.ofV t.data.toList 1 = 0 ∧ P.ofV t.data.toList 2 = 0 ∧ P.ofV t.data.toList 3 = 0 ∧ P.ofV t.data.toList 4 = 0 ∧ P.ofE t.data.toList = 50 := fun h => by simp [P.ofV, P.ofE, h]
  have good : P.ofOk t.data.toList = true → P.ofV t.data.toList 0 = t.data.toList.getD 3 0 ∧ P.ofV t.data.toList 1 = t.data.toList.getD 4 0 ∧ P.ofV t.data.toList 2 = t.data.toList.getD 5 0 ∧ P.ofV t.data.toList 3 = t.data.toList.getD 6 0 ∧ P.ofV t.data.toList 4 = t.data.toList.getD 7 0 ∧ P.ofE t.data.toList = 0 := fun h => by simp [P.ofV, P.ofE, h]
  by_cases h8 : t.size < 8
  · have HV := Lib.hid (bad (by unfold P.ofOk; rw [decide_eq_false (by simp; omega)]; rfl))
    clear bad good
    go_enter Try.func10, Try.ntmps10
    go_wp2
    refine bodyPost_ret (v := .tuple #[.agg #[.int .u8 0, .int .u8 0, .int .u8 0, .int .u8 0, .int .u8 0], .int .i64 50]) (by simp [results, Try.results10, go_sem]) rfl ⟨?_, ?_⟩
    · rw [HV.out.1, HV.out.2.1, HV.out.2.2.1, HV.out.2.2.2.1, HV.out.2.2.2.2.1, HV.out.2.2.2.2.2]; all_goals rfl
    · exact ((Below.refl _ _).alloc (Nat.le_refl _) _)
  · have hpre := P.pre_eq t
    by_cases hm : (t.extract 0 3).toList = [77, 83, 72]
    · have hok := P.ofOk_eq t (by omega) hm
      have i3 := idx_val t 3 (by omega) (i := 3) rfl
      have i4 := idx_val t 4 (by omega) (i := 4) rfl
      have i5 := idx_val t 5 (by omega) (i := 5) rfl
      have i6 := idx_val t 6 (by omega) (i := 6) rfl
      have i7 := idx_val t 7 (by omega) (i := 7) rfl
      have i8 : 8 < t.size → ∀ W : World, (Instr.index 9 (.string t) (.int .i64 8)).run Try.prog W = .ok (.int .u8 ((t.data.toList.getD 8 0).toNat : Int)) W := fun h => idx_val t 8 h (i := 8) rfl
      generalize t.data.toList.getD 3 0 = f at *
      generalize t.data.toList.getD 4 0 = c at *
      generalize t.data.toList.getD 5 0 = r at *
      generalize t.data.toList.getD 6 0 = e at *
      generalize t.data.toList.getD 7 0 = s at *
      generalize t.data.toList.getD 8 0 = g at *
      have Hok := Lib.hid hok
      have I8 := Lib.hid i8
      have Bad := Lib.hid bad
      have Good := Lib.hid good
      clear hok bad good hpre i8
      go_enter Try.func10, Try.ntmps10
      go_wp2_with fail
      go_region
      go_wp2_with fail
      have hcl : ∀ x : Ext (((w.alloc (.cells #[Value.int .u8 0, .int .u8 0, .int .u8 0, .int .u8 0, .int .u8 0] 23)).alloc (.cells #[Value.int .u8 (f.toNat : Int), .int .u8 (c.toNat : Int), .int .u8 (r.toNat : Int), .int .u8 (e.toNat : Int), .int .u8 (s.toNat : Int)] 23)).drew), ∀ i, x.wd.cell? ⟨w.heap.size + 1, i, none⟩ = #[Value.int .u8 (f.toNat : Int), .int .u8 (c.toNat : Int), .int .u8 (r.toNat : Int), .int .u8 (e.toNat : Int), .int .u8 (s.toNat : Int)][i]? := fun x i => by
        rw [x.cell (by simp)]
        have := (Blk.new (w.alloc (.cells #[Value.int .u8 0, .int .u8 0, .int .u8 0, .int .u8 0, .int .u8 0] 23)) 23 #[Value.int .u8 (f.toNat : Int), .int .u8 (c.toNat : Int), .int .u8 (r.toNat : Int), .int .u8 (e.toNat : Int), .int .u8 (s.toNat : Int)]).cell i
        rw [show (w.alloc (.cells #[Value.int .u8 0, .int .u8 0, .int .u8 0, .int .u8 0, .int .u8 0] 23)).heap.size = w.heap.size + 1 from by simp] at this
        exact this
      have hz : ∀ x : Ext (((w.alloc (.cells #[Value.int .u8 0, .int .u8 0, .int .u8 0, .int .u8 0, .int .u8 0] 23)).alloc (.cells #[Value.int .u8 (f.toNat : Int), .int .u8 (c.toNat : Int), .int .u8 (r.toNat : Int), .int .u8 (e.toNat : Int), .int .u8 (s.toNat : Int)] 23)).drew), ∀ i, x.wd.cell? ⟨w.heap.size, i, none⟩ = #[Value.int .u8 0, .int .u8 0, .int .u8 0, .int .u8 0, .int .u8 0][i]? := fun x i => by
        rw [x.cell (by simp; omega)]
        have := ((Blk.new w 23 #[Value.int .u8 0, .int .u8 0, .int .u8 0, .int .u8 0, .int .u8 0]).alloc (.cells #[Value.int .u8 (f.toNat : Int), .int .u8 (c.toNat : Int), .int .u8 (r.toNat : Int), .int .u8 (e.toNat : Int), .int .u8 (s.toNat : Int)] 23)).cell i
        exact this
      have hzf : ∀ x : Ext (((w.alloc (.cells #[Value.int .u8 0, .int .u8 0, .int .u8 0, .int .u8 0, .int .u8 0] 23)).alloc (.cells #[Value.int .u8 (f.toNat : Int), .int .u8 (c.toNat : Int), .int .u8 (r.toNat : Int), .int .u8 (e.toNat : Int), .int .u8 (s.toNat : Int)] 23)).drew), ∀ i, x.wd.frozen? ⟨w.heap.size, i, none⟩ = false := fun x i => by
        rw [x.hb.frozen (p := ⟨w.heap.size, i, none⟩) (by simp; omega)]
        exact ((Blk.new w 23 #[Value.int .u8 0, .int .u8 0, .int .u8 0, .int .u8 0, .int .u8 0]).alloc (.cells #[Value.int .u8 (f.toNat : Int), .int .u8 (c.toNat : Int), .int .u8 (r.toNat : Int), .int .u8 (e.toNat : Int), .int .u8 (s.toNat : Int)] 23)).frozen i
      have HW : ∀ x : Ext (((w.alloc (.cells #[Value.int .u8 0, .int .u8 0, .int .u8 0, .int .u8 0, .int .u8 0] 23)).alloc (.cells #[Value.int .u8 (f.toNat : Int), .int .u8 (c.toNat : Int), .int .u8 (r.toNat : Int), .int .u8 (e.toNat : Int), .int .u8 (s.toNat : Int)] 23)).drew), Below w.heap.size w x.wd := fun x => (((Below.refl w.heap.size w).alloc (Nat.le_refl _) _).alloc (by simp) _).drew.trans (x.hb.mono (by simp; omega))
      have HZ := Lib.hid hz
      have HZF := Lib.hid hzf
      have HCL := Lib.hid hcl
      have HWH := Lib.hid HW
      clear hz hzf HW
      refine wp_region_ext (by kernel_rfl) (by kernel_rfl) ?_
      by_cases hv : P.valid [f, c, r, e, s] = true
      · rcases (by omega : t.size = 8 ∨ 8 < t.size) with h9 | h9
        · have HV := Lib.hid (Good.out (by rw [Hok.out, hv, decide_eq_true (Or.inl h9)]; rfl))
          have t0 : decide (8 < (t.size : Int)) = false := decide_eq_false (by omega)
          have h9' : t.size ≤ 8 := by omega
          clear h9
          have HVA := Lib.hid (show ∀ W, Calls Try.prog 13 #[.agg #[Value.int .u8 (f.toNat : Int), .int .u8 (c.toNat : Int), .int .u8 (r.toNat : Int), .int .u8 (e.toNat : Int), .int .u8 (s.toNat : Int)]] W fun x w' => x = .returned (.bool true) ∧ Below W.heap.size W w' from fun W => by have h := valid_any f c r e s W; rw [hv] at h; exact h)
          clear hv
          repeat (first | go_big_quiet_step ((go_at_call 13; exact Ext.calls _ (HVA.out _))) | quiet_step ((go_at_call 13; exact Ext.calls _ (HVA.out _))))
          refine wpQuiet_nil ?_
          intro w4 hb4
          have hz := fun i => HZ.out ⟨w4, hb4⟩ i
          have hzf := fun i => HZF.out ⟨w4, hb4⟩ i
          have hcl2 := fun i => HCL.out ⟨w4, hb4⟩ i
          simp only at hz hzf hcl2
          have HW4 := Lib.hid (show Below w.heap.size w w4 from HWH.out ⟨w4, hb4⟩)
          clear hb4 hcl
          go_wp2
          refine bodyPost_ret (v := .tuple #[.agg #[.int .u8 (f.toNat : Int), .int .u8 (c.toNat : Int), .int .u8 (r.toNat : Int), .int .u8 (e.toNat : Int), .int .u8 (s.toNat : Int)], .int .i64 0]) (by simp [results, Try.results10, go_sem, hz]) rfl ⟨?_, ?_⟩
          · rw [HV.out.1, HV.out.2.1, HV.out.2.2.1, HV.out.2.2.2.1, HV.out.2.2.2.2.1, HV.out.2.2.2.2.2]; all_goals rfl
          · exact (((((HW4.out.setCell (Nat.le_refl _) _).setCell (Nat.le_refl _) _).setCell (Nat.le_refl _) _).setCell (Nat.le_refl _) _).setCell (Nat.le_refl _) _)
        · have i8 := I8.out h9
          by_cases g1 : g = f
          · have t0 : decide (8 < (t.size : Int)) = true := decide_eq_true (by omega)
            have HV := Lib.hid (Good.out (by rw [Hok.out, hv, decide_eq_true (Or.inr (Or.inl g1))]; rfl))
            have t1 : ((g.toNat : Int) != (f.toNat : Int)) = false := by rw [g1]; simp
            clear g1
            have HVA := Lib.hid (show ∀ W, Calls Try.prog 13 #[.agg #[Value.int .u8 (f.toNat : Int), .int .u8 (c.toNat : Int), .int .u8 (r.toNat : Int), .int .u8 (e.toNat : Int), .int .u8 (s.toNat : Int)]] W fun x w' => x = .returned (.bool true) ∧ Below W.heap.size W w' from fun W => by have h := valid_any f c r e s W; rw [hv] at h; exact h)
            clear hv
            repeat (first | go_big_quiet_step ((go_at_call 13; exact Ext.calls _ (HVA.out _))) | quiet_step ((go_at_call 13; exact Ext.calls _ (HVA.out _))))
            refine wpQuiet_nil ?_
            intro w4 hb4
            have hz := fun i => HZ.out ⟨w4, hb4⟩ i
            have hzf := fun i => HZF.out ⟨w4, hb4⟩ i
            have hcl2 := fun i => HCL.out ⟨w4, hb4⟩ i
            simp only at hz hzf hcl2
            have HW4 := Lib.hid (show Below w.heap.size w w4 from HWH.out ⟨w4, hb4⟩)
            clear hb4 hcl
            go_wp2
            refine bodyPost_ret (v := .tuple #[.agg #[.int .u8 (f.toNat : Int), .int .u8 (c.toNat : Int), .int .u8 (r.toNat : Int), .int .u8 (e.toNat : Int), .int .u8 (s.toNat : Int)], .int .i64 0]) (by simp [results, Try.results10, go_sem, hz]) rfl ⟨?_, ?_⟩
            · rw [HV.out.1, HV.out.2.1, HV.out.2.2.1, HV.out.2.2.2.1, HV.out.2.2.2.2.1, HV.out.2.2.2.2.2]; all_goals rfl
            · exact (((((HW4.out.setCell (Nat.le_refl _) _).setCell (Nat.le_refl _) _).setCell (Nat.le_refl _) _).setCell (Nat.le_refl _) _).setCell (Nat.le_refl _) _)
          · by_cases g2 : g = 13
            · have t0 : decide (8 < (t.size : Int)) = true := decide_eq_true (by omega)
              have HV := Lib.hid (Good.out (by rw [Hok.out, hv, decide_eq_true (Or.inr (Or.inr (Or.inl g2)))]; rfl))
              have t1 : ((g.toNat : Int) != (f.toNat : Int)) = true := by rw [bne_iff_ne]; intro h; exact g1 (UInt8.toNat_inj.1 (by omega))
              have t2 : ((g.toNat : Int) != 13) = false := by rw [g2]; rfl
              clear g1 g2
              have HVA := Lib.hid (show ∀ W, Calls Try.prog 13 #[.agg #[Value.int .u8 (f.toNat : Int), .int .u8 (c.toNat : Int), .int .u8 (r.toNat : Int), .int .u8 (e.toNat : Int), .int .u8 (s.toNat : Int)]] W fun x w' => x = .returned (.bool true) ∧ Below W.heap.size W w' from fun W => by have h := valid_any f c r e s W; rw [hv] at h; exact h)
              clear hv
              repeat (first | go_big_quiet_step ((go_at_call 13; exact Ext.calls _ (HVA.out _))) | quiet_step ((go_at_call 13; exact Ext.calls _ (HVA.out _))))
              refine wpQuiet_nil ?_
              intro w4 hb4
              have hz := fun i => HZ.out ⟨w4, hb4⟩ i
              have hzf := fun i => HZF.out ⟨w4, hb4⟩ i
              have hcl2 := fun i => HCL.out ⟨w4, hb4⟩ i
              simp only at hz hzf hcl2
              have HW4 := Lib.hid (show Below w.heap.size w w4 from HWH.out ⟨w4, hb4⟩)
              clear hb4 hcl
              go_wp2
              refine bodyPost_ret (v := .tuple #[.agg #[.int .u8 (f.toNat : Int), .int .u8 (c.toNat : Int), .int .u8 (r.toNat : Int), .int .u8 (e.toNat : Int), .int .u8 (s.toNat : Int)], .int .i64 0]) (by simp [results, Try.results10, go_sem, hz]) rfl ⟨?_, ?_⟩
              · rw [HV.out.1, HV.out.2.1, HV.out.2.2.1, HV.out.2.2.2.1, HV.out.2.2.2.2.1, HV.out.2.2.2.2.2]; all_goals rfl
              · exact (((((HW4.out.setCell (Nat.le_refl _) _).setCell (Nat.le_refl _) _).setCell (Nat.le_refl _) _).setCell (Nat.le_refl _) _).setCell (Nat.le_refl _) _)
            · by_cases g3 : g = 10
              · have t0 : decide (8 < (t.size : Int)) = true := decide_eq_true (by omega)
                have HV := Lib.hid (Good.out (by rw [Hok.out, hv, decide_eq_true (Or.inr (Or.inr (Or.inr g3)))]; rfl))
                have t1 : ((g.toNat : Int) != (f.toNat : Int)) = true := by rw [bne_iff_ne]; intro h; exact g1 (UInt8.toNat_inj.1 (by omega))
                have t2 : ((g.toNat : Int) != 13) = true := by rw [bne_iff_ne]; intro h; exact g2 (UInt8.toNat_inj.1 (show g.toNat = 13 from by omega))
                have t3 : ((g.toNat : Int) != 10) = false := by rw [g3]; rfl
                clear g1 g2 g3
                have HVA := Lib.hid (show ∀ W, Calls Try.prog 13 #[.agg #[Value.int .u8 (f.toNat : Int), .int .u8 (c.toNat : Int), .int .u8 (r.toNat : Int), .int .u8 (e.toNat : Int), .int .u8 (s.toNat : Int)]] W fun x w' => x = .returned (.bool true) ∧ Below W.heap.size W w' from fun W => by have h := valid_any f c r e s W; rw [hv] at h; exact h)
                clear hv
                repeat (first | go_big_quiet_step ((go_at_call 13; exact Ext.calls _ (HVA.out _))) | quiet_step ((go_at_call 13; exact Ext.calls _ (HVA.out _))))
                refine wpQuiet_nil ?_
                intro w4 hb4
                have hz := fun i => HZ.out ⟨w4, hb4⟩ i
                have hzf := fun i => HZF.out ⟨w4, hb4⟩ i
                have hcl2 := fun i => HCL.out ⟨w4, hb4⟩ i
                simp only at hz hzf hcl2
                have HW4 := Lib.hid (show Below w.heap.size w w4 from HWH.out ⟨w4, hb4⟩)
                clear hb4 hcl
                go_wp2
                refine bodyPost_ret (v := .tuple #[.agg #[.int .u8 (f.toNat : Int), .int .u8 (c.toNat : Int), .int .u8 (r.toNat : Int), .int .u8 (e.toNat : Int), .int .u8 (s.toNat : Int)], .int .i64 0]) (by simp [results, Try.results10, go_sem, hz]) rfl ⟨?_, ?_⟩
                · rw [HV.out.1, HV.out.2.1, HV.out.2.2.1, HV.out.2.2.2.1, HV.out.2.2.2.2.1, HV.out.2.2.2.2.2]; all_goals rfl
                · exact (((((HW4.out.setCell (Nat.le_refl _) _).setCell (Nat.le_refl _) _).setCell (Nat.le_refl _) _).setCell (Nat.le_refl _) _).setCell (Nat.le_refl _) _)
              · have t0 : decide (8 < (t.size : Int)) = true := decide_eq_true (by omega)
                have HV := Lib.hid (Bad.out (by rw [Hok.out, hv, decide_eq_false (fun h => h.elim (fun h => by omega) (fun h => h.elim g1 (fun h => h.elim g2 g3)))]; rfl))
                have t1 : ((g.toNat : Int) != (f.toNat : Int)) = true := by rw [bne_iff_ne]; intro h; exact g1 (UInt8.toNat_inj.1 (by omega))
                have t2 : ((g.toNat : Int) != 13) = true := by rw [bne_iff_ne]; intro h; exact g2 (UInt8.toNat_inj.1 (show g.toNat = 13 from by omega))
                have t3 : ((g.toNat : Int) != 10) = true := by rw [bne_iff_ne]; intro h; exact g3 (UInt8.toNat_inj.1 (show g.toNat = 10 from by omega))
                clear g1 g2 g3
                have HVA := Lib.hid (show ∀ W, Calls Try.prog 13 #[.agg #[Value.int .u8 (f.toNat : Int), .int .u8 (c.toNat : Int), .int .u8 (r.toNat : Int), .int .u8 (e.toNat : Int), .int .u8 (s.toNat : Int)]] W fun x w' => x = .returned (.bool true) ∧ Below W.heap.size W w' from fun W => by have h := valid_any f c r e s W; rw [hv] at h; exact h)
                clear hv
                repeat (first | go_big_quiet_step ((go_at_call 13; exact Ext.calls _ (HVA.out _))) | quiet_step ((go_at_call 13; exact Ext.calls _ (HVA.out _))))
                refine wpQuiet_nil ?_
                intro w4 hb4
                have hz := fun i => HZ.out ⟨w4, hb4⟩ i
                have hzf := fun i => HZF.out ⟨w4, hb4⟩ i
                have hcl2 := fun i => HCL.out ⟨w4, hb4⟩ i
                simp only at hz hzf hcl2
                have HW4 := Lib.hid (show Below w.heap.size w w4 from HWH.out ⟨w4, hb4⟩)
                clear hb4 hcl
                go_wp2
                refine bodyPost_ret (v := .tuple #[.agg #[.int .u8 0, .int .u8 0, .int .u8 0, .int .u8 0, .int .u8 0], .int .i64 50]) (by simp [results, Try.results10, go_sem, hz]) rfl ⟨?_, ?_⟩
                · rw [HV.out.1, HV.out.2.1, HV.out.2.2.1, HV.out.2.2.2.1, HV.out.2.2.2.2.1, HV.out.2.2.2.2.2]; all_goals rfl
                · exact (((((HW4.out.setCell (Nat.le_refl _) _).setCell (Nat.le_refl _) _).setCell (Nat.le_refl _) _).setCell (Nat.le_refl _) _).setCell (Nat.le_refl _) _)
      · have hv : P.valid [f, c, r, e, s] = false := by simpa using hv
        have HV := Lib.hid (Bad.out (by rw [Hok.out, hv]; rfl))
        have HVA := Lib.hid (show ∀ W, Calls Try.prog 13 #[.agg #[Value.int .u8 (f.toNat : Int), .int .u8 (c.toNat : Int), .int .u8 (r.toNat : Int), .int .u8 (e.toNat : Int), .int .u8 (s.toNat : Int)]] W fun x w' => x = .returned (.bool false) ∧ Below W.heap.size W w' from fun W => by have h := valid_any f c r e s W; rw [hv] at h; exact h)
        clear hv
        repeat (first | go_big_quiet_step ((go_at_call 13; exact Ext.calls _ (HVA.out _))) | quiet_step ((go_at_call 13; exact Ext.calls _ (HVA.out _))))
        refine wpQuiet_nil ?_
        intro w4 hb4
        have hz := fun i => HZ.out ⟨w4, hb4⟩ i
        have hzf := fun i => HZF.out ⟨w4, hb4⟩ i
        have hcl2 := fun i => HCL.out ⟨w4, hb4⟩ i
        simp only at hz hzf hcl2
        have HW4 := Lib.hid (show Below w.heap.size w w4 from HWH.out ⟨w4, hb4⟩)
        clear hb4 hcl
        go_wp2
        refine bodyPost_ret (v := .tuple #[.agg #[.int .u8 0, .int .u8 0, .int .u8 0, .int .u8 0, .int .u8 0], .int .i64 50]) (by simp [results, Try.results10, go_sem, hz]) rfl ⟨?_, ?_⟩
        · rw [HV.out.1, HV.out.2.1, HV.out.2.2.1, HV.out.2.2.2.1, HV.out.2.2.2.2.1, HV.out.2.2.2.2.2]; all_goals rfl
        · exact (((((HW4.out.setCell (Nat.le_refl _) _).setCell (Nat.le_refl _) _).setCell (Nat.le_refl _) _).setCell (Nat.le_refl _) _).setCell (Nat.le_refl _) _)
    · have HV := Lib.hid (bad (by unfold P.ofOk; rw [decide_eq_false (by rintro ⟨_, h⟩; exact hm (by rw [hpre]; exact h))]; rfl))
      have hm2 : ((t.extract 0 3).toList == [77, 83, 72]) = false := beq_eq_false_iff_ne.2 hm
      clear bad good hpre
      go_enter Try.func10, Try.ntmps10
      go_wp2
      refine bodyPost_ret (v := .tuple #[.agg #[.int .u8 0, .int .u8 0, .int .u8 0, .int .u8 0, .int .u8 0], .int .i64 50]) (by simp [results, Try.results10, go_sem]) rfl ⟨?_, ?_⟩
      · rw [HV.out.1, HV.out.2.1, HV.out.2.2.1, HV.out.2.2.2.1, HV.out.2.2.2.2.1, HV.out.2.2.2.2.2]; all_goals rfl
      · exact ((Below.refl _ _).alloc (Nat.le_refl _) _)
end Go.Proofs.Ytefebcibcmjbaab
