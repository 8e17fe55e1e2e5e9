/- EscapeBack: the walk: what is written is read as the value, and has no sign but the escape, and no byte that is not printed. -/
import Derived.Test.YtefebcibcmjbaabEscTells
namespace Go.Proofs.Ytefebcibcmjbaab
set_option linter.unusedVariables false
open Go.RowKit Go.BigFrame
namespace P
theorem isSign_of {f c r e s b : UInt8} (h : letter f c r e s b = 0) : isSign [f, c, r, e, s] b = false := by
  obtain ⟨h1, h2, h3, h4, h5⟩ := letter_zero.1 h
  simp [isSign, Ne.symm h1, Ne.symm h2, Ne.symm h3, Ne.symm h4, Ne.symm h5]
theorem isSign_no2 {f c r e s b : UInt8} (h : Sound f c r e s) (hb : may b = false) : isSign [f, c, r, e, s] b = false := by
  simp [isSign, may_ne h.mf hb, may_ne h.mc hb, may_ne h.mr hb, may_ne h.me hb, may_ne h.ms hb]
theorem escB_clean {f c r e s : UInt8} (h : Sound f c r e s) (x : UInt8) : ∀ b ∈ escB f c r e s x, 32 ≤ b.toNat ∧ b.toNat ≤ 126 ∧ (b = e ∨ isSign [f, c, r, e, s] b = false) := by
  have he := may_out h.me
  have hx := x.toNat_lt
  unfold escB
  by_cases hl : letter f c r e s x = 0
  · rw [if_neg (fun k => k hl)]
    split
    · intro b hb
      simp at hb
      have h1 := hexU_print (x.toNat / 16) (by omega)
      have h2 := hexU_print (x.toNat % 16) (by omega)
      rcases hb with rfl | rfl | rfl | rfl | rfl
      · exact ⟨by omega, by omega, Or.inl rfl⟩
      · exact ⟨by decide, by decide, Or.inr (isSign_no2 h (by decide))⟩
      · exact ⟨h1.1, h1.2, Or.inr (isSign_no2 h (hexU_may _ (by omega)))⟩
      · exact ⟨h2.1, h2.2, Or.inr (isSign_no2 h (hexU_may _ (by omega)))⟩
      · exact ⟨by omega, by omega, Or.inl rfl⟩
    · intro b hb
      simp at hb
      subst hb
      exact ⟨by omega, by omega, Or.inr (isSign_of hl)⟩
  · rw [if_pos hl]
    obtain ⟨m1, m2, m3, _⟩ := letter_means h hl
    intro b hb
    simp at hb
    rcases hb with rfl | rfl | rfl
    · exact ⟨by omega, by omega, Or.inl rfl⟩
    · exact ⟨m2, m3, Or.inr (isSign_no2 h m1)⟩
    · exact ⟨by omega, by omega, Or.inl rfl⟩
theorem esc_clean {f c r e s : UInt8} (h : Sound f c r e s) (l : List UInt8) : ∀ b ∈ esc f c r e s l, 32 ≤ b.toNat ∧ b.toNat ≤ 126 ∧ (b = e ∨ isSign [f, c, r, e, s] b = false) := by
  intro b hb
  obtain ⟨x, _, hx⟩ := List.mem_flatMap.1 hb
  exact escB_clean h x b hx
end P
theorem mk_str (t : ByteArray) : (⟨t.data.toList.toArray⟩ : ByteArray) = t := by cases t; rfl
theorem idx_list (l : List UInt8) (k : Nat) (hk : k < l.length) {i : Int} (hi : i = (k : Int)) (W : World) : (Instr.index 9 (.string ⟨l.toArray⟩) (.int .i64 i)).run Try.prog W = .ok (.int .u8 ((l.getD k 0).toNat : Int)) W := by
  have h := idx_atu ⟨l.toArray⟩ k hk hi W
  have e1 : (⟨l.toArray⟩ : ByteArray)[k] = l.getD k 0 := by
    show l.toArray[k] = _
    simp [List.getD_eq_getElem?_getD, hk]
  rw [h, e1]
set_option maxRecDepth 100000 in
set_option maxHeartbeats 2000000 in
theorem escapeBack_any (f c r e s : UInt8) (t : ByteArray) (w : World) (ht : t.size ≤ 140737488351232) :
    Calls Try.prog 7 #[.agg #[.int .u8 (f.toNat : Int), .int .u8 (c.toNat : Int), .int .u8 (r.toNat : Int), .int .u8 (e.toNat : Int), .int .u8 (s.toNat : Int)], .string t] w fun x w' => x = .returned (.bool true) ∧ Below w.heap.size w w' := by
  by_cases hz : 9000 < t.size
  · have d1 : decide ((9000 : Int) < (t.size : Int)) = true := decide_eq_true (by omega)
    go_enter Try.func7, Try.ntmps7
    go_wp2_with fail
    refine (alive7 _).mono ?_
    rintro x w1 ⟨rfl, hb1⟩
    have B1 := Lib.hid (box_below hb1)
    clear hb1
    go_wp2
    go_ret
    exact ⟨rfl, B1.out⟩
  have d1 : decide ((9000 : Int) < (t.size : Int)) = false := decide_eq_false (by omega)
  have vc := fun W => valid_any f c r e s W
  cases hv : P.valid [f, c, r, e, s]
  · rw [hv] at vc
    have VC := Lib.hid vc
    clear vc hv
    go_enter Try.func7, Try.ntmps7
    go_wp2_with fail
    refine (VC.out _).mono ?_
    rintro x w1 ⟨rfl, hb1⟩
    have B1 := Lib.hid (box_below hb1)
    clear hb1
    go_wp2_with fail
    refine (alive7 _).mono ?_
    rintro x w2 ⟨rfl, hb2⟩
    have B2 := Lib.hid (bt'' B1.out hb2)
    clear hb2
    go_wp2
    go_ret
    exact ⟨rfl, B2.out⟩
  · have hS := P.sound_of hv
    have wc := fun W => write_any f c r e s t W (by omega)
    have hle := esc_le f c r e s t.data.toList
    have e1 : P.escS f c r e s t.data.toList = P.esc f c r e s t.data.toList := by simp [P.escS, hv]
    rw [e1] at wc
    have rc := fun W => read_any f c r e s ⟨(P.esc f c r e s t.data.toList).toArray⟩ W (by show (P.esc f c r e s t.data.toList).length ≤ _; simp at hle; omega)
    rw [if_pos hv] at rc
    simp only at rc
    rw [P.read_esc hS, mk_str] at rc
    have hcl := P.esc_clean hS t.data.toList
    simp at hle
    generalize P.esc f c r e s t.data.toList = es at *
    have hle2 := esc_le f c r e s es
    have wc2 := fun W => write_any f c r e s ⟨es.toArray⟩ W (by show es.length ≤ _; omega)
    simp only at wc2
    rw [show P.escS f c r e s es = P.esc f c r e s es from by simp [P.escS, hv]] at wc2
    have rc2 := fun W => read_any f c r e s ⟨(P.esc f c r e s es).toArray⟩ W (by show (P.esc f c r e s es).length ≤ _; omega)
    rw [if_pos hv] at rc2
    simp only at rc2
    rw [P.read_esc hS] at rc2
    generalize P.esc f c r e s es = es2 at *
    rw [hv] at vc
    have VC := Lib.hid vc
    have WC := Lib.hid wc
    have RC := Lib.hid rc
    have WC2 := Lib.hid wc2
    have RC2 := Lib.hid rc2
    have CL := Lib.hid hcl
    have hes : es.length ≤ 45000 := by omega
    clear vc wc rc wc2 rc2 hcl hS e1 hv hle hle2
    go_enter Try.func7, Try.ntmps7
    go_wp2_with fail
    refine (VC.out _).mono ?_
    rintro x w1 ⟨rfl, hb1⟩
    have k1 := (Blk.new w 23 #[.int .u8 (f.toNat : Int), .int .u8 (c.toNat : Int), .int .u8 (r.toNat : Int), .int .u8 (e.toNat : Int), .int .u8 (s.toNat : Int)]).below hb1 (by simp)
    have c1 := fun i => k1.cell i
    have K1 := Lib.hid k1
    have B1 := Lib.hid (box_below hb1)
    clear hb1 k1
    go_wp2_with fail
    refine (WC.out _).mono ?_
    rintro x w2 ⟨rfl, hb2⟩
    have K2 := Lib.hid (K1.out.below hb2 K1.out.lt)
    have B2 := Lib.hid (bt'' B1.out hb2)
    clear hb2 c1
    go_wp2_with fail
    go_loopw [6] (fun x wr => ∃ k : Nat, k ≤ es.length ∧ x = .int .i64 k ∧ Blk wr w.heap.size 23 #[.int .u8 (f.toNat : Int), .int .u8 (c.toNat : Int), .int .u8 (r.toNat : Int), .int .u8 (e.toNat : Int), .int .u8 (s.toNat : Int)] ∧ Below w.heap.size w wr) (fun x _ => es.length - (intOf x).toNat)
    case atStart => exact ⟨0, by omega, rfl, K2.out, B2.out⟩
    case round =>
      obtain ⟨k, hk, rfl, hblk, hbel⟩ := hrel
      have hcl := fun x => fun i => ext_blk6 hblk x i
      have B3 := Lib.hid hbel
      clear hbel
      by_cases hlt : k < es.length
      · have hi := fun W => idx_list es k hlt rfl W
        have hcb := CL.out (es.getD k 0) (by rw [List.getD_eq_getElem?_getD, List.getElem?_eq_getElem hlt]; exact List.getElem_mem hlt)
        generalize es.getD k 0 = b at *
        obtain ⟨h1, h2, h3⟩ := hcb
        have d2 : decide ((b.toNat : Int) < 32) = false := decide_eq_false (by omega)
        have d3 : decide (126 < (b.toNat : Int)) = false := decide_eq_false (by omega)
        by_cases hbe : b = e
        · have d4 : ((b.toNat : Int) != (e.toNat : Int)) = false := by rw [hbe]; simp
          clear h3 hbe
          go_wp2_with fail
          refine wp_region_ext (by kernel_rfl) (by kernel_rfl) ?_
          repeat (first | go_big_quiet_step (fail) | quiet_step (fail))
          refine wpQuiet_nil ?_
          intro w4 hb4
          have hblk4 := hblk.below hb4 hblk.lt
          have B4 := Lib.hid (bt'' B3.out hb4)
          clear hb4 hcl hblk hi d4
          go_wp2
          go_roundw
          case rel => exact ⟨k + 1, by omega, by go_num, hblk4, B4.out⟩
          case measure => simp [intOf]; omega
        · have d4 : ((b.toNat : Int) != (e.toNat : Int)) = true := by rw [bne_iff_ne]; intro h; exact hbe (UInt8.toNat_inj.1 (by omega))
          have ic := fun W => is_any f c r e s b W
          rw [h3.resolve_left hbe] at ic
          have IC := Lib.hid ic
          clear h3 hbe ic
          go_wp2_with fail
          refine wp_region_ext (by kernel_rfl) (by kernel_rfl) ?_
          repeat (first | go_big_quiet_step ((go_at_call 17; exact Ext.calls _ (IC.out _))) | quiet_step ((go_at_call 17; exact Ext.calls _ (IC.out _))))
          refine wpQuiet_nil ?_
          intro w4 hb4
          have hblk4 := hblk.below hb4 hblk.lt
          have B4 := Lib.hid (bt'' B3.out hb4)
          clear hb4 hcl hblk hi d4
          go_wp2
          go_roundw
          case rel => exact ⟨k + 1, by omega, by go_num, hblk4, B4.out⟩
          case measure => simp [intOf]; omega
      · have hkn : k = es.length := by omega
        have HK := Lib.hid hkn
        clear hkn
        go_wp2_with fail
        refine wp_region_ext (by kernel_rfl) (by kernel_rfl) ?_
        repeat (first | go_big_quiet_step ((first | (go_at_call 19; exact Ext.calls _ (alive7 _)) | (go_at_call 20; exact Ext.calls _ (WC2.out _)) | (go_at_call 22; with_reducible exact Ext.calls _ (RC.out _)) | (go_at_call 22; exact Ext.calls _ (RC2.out _)))) | quiet_step ((first | (go_at_call 19; exact Ext.calls _ (alive7 _)) | (go_at_call 20; exact Ext.calls _ (WC2.out _)) | (go_at_call 22; with_reducible exact Ext.calls _ (RC.out _)) | (go_at_call 22; exact Ext.calls _ (RC2.out _)))))
        refine wpQuiet_nil ?_
        intro w4 hb4
        have B4 := Lib.hid (bt'' B3.out hb4)
        clear hb4
        go_wp2
        go_ret
        exact ⟨rfl, B4.out⟩
end Go.Proofs.Ytefebcibcmjbaab
