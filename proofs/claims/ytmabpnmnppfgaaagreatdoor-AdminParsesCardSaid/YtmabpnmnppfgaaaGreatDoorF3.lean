/- Part F3 of the proof: the statement that is proved stands in the text that ends with its name. No conditions beyond the card's. -/
import Derived.Test.YtmabpnmnppfgaaaGreatDoorE2
import Derived.Test.YtmabpnmnppfgaaaGreatDoorE3
import Derived.Test.YtmabpnmnppfgaaaGreatDoorG1
import Derived.Test.YtmabpnmnppfgaaaGreatDoorA6
namespace Go.Proofs.YtmabpnmnppfgaaaGreatDoor
set_option linter.unusedVariables false
open Go Go.RowKit Go.BigFrame
set_option maxRecDepth 100000 in
theorem refWord_res {W : World} {tmps : Array Value} {g : Nat} {v5 v6 : Value} {cs : Array Value} (hW : Blk W g 71 cs) (hl : cs.size = 11) (h4 : tmps.getD 4 undef = .pointer (some ⟨g, 0, none⟩)) (h5 : tmps.getD 5 undef = v5) (h6 : tmps.getD 6 undef = v6) :
    (results Tryz.f130 tmps).run Tryz.prog W = .ok (.tuple #[.agg cs, v5, v6]) W := by
  rw [results_cell_tmp2 rfl, h4, h5, h6]
  have hi : (Tryz.prog.info? 71).map (·.size) = some cs.size := by rw [hl]; kernel_rfl
  have h := run_loadVar_row (P := Tryz.prog) W g 71 71 cs (0, 0) _ hW Tryz.underlying71 rfl hi
  simp only [asAddr, Sem.run_pure, Result.andThen_ok, h]
theorem wroteW (w : World) (a b c d e f i j k l m : Value) : Blk (w.alloc (.cells #[a, b, c, d, e, f, i, j, k, l, m] 71)) w.heap.size 71 #[a, b, c, d, e, f, i, j, k, l, m] ∧ Below w.heap.size w (w.alloc (.cells #[a, b, c, d, e, f, i, j, k, l, m] 71)) := ⟨Blk.new w _ _, (Below.refl _ w).alloc (Nat.le_refl _) _⟩
set_option maxRecDepth 100000 in
set_option maxHeartbeats 4000000 in
theorem refWord_any (s : ByteArray) (at_ : Nat) (w : World) (hs : s.size ≤ 100000) (h0 : at_ < s.size) :
    Calls Tryz.prog 130 #[.string s, .int .i64 (at_ : Int)] w fun e w' => WordOut ⟨(s.data.toList.drop at_).toArray⟩ e ∧ Below w.heap.size w w' := by
  obtain ⟨T, hT⟩ : ∃ T : ByteArray, T = ⟨(s.data.toList.drop at_).toArray⟩ := ⟨_, rfl⟩
  rw [← hT]
  have hTL : T.data.toList = s.data.toList.drop at_ := by rw [hT]
  have hi1 : ∀ W : World, (Instr.index 9 (.string s) (.int .i64 (at_ : Int))).run Tryz.prog W = .ok (.int .u8 (s[at_].toNat : Int)) W := fun W => idx_atu s at_ h0 rfl W
  have hc := s[at_].toNat_lt
  have hd : s.data.toList.drop at_ = s[at_] :: s.data.toList.drop (at_ + 1) := by
    rw [List.drop_eq_getElem_cons (by simpa using h0)]; rfl
  have hext : ∀ n, (s.extract at_ (at_ + n)).data.toList = T.data.toList.take n := fun n => by rw [hTL, ext_mid]
  have hext1 : ∀ n, (s.extract (at_ + 1) (at_ + 1 + n)).data.toList = (s.data.toList.drop (at_ + 1)).take n := fun n => ext_mid s (at_ + 1) n
  have hTn : ∀ p : UInt8 → Bool, Ad.run p T.data.toList ≤ s.size - at_ := fun p => by have := Ad.run_le p T.data.toList; rw [hTL, List.length_drop, len_size] at this; rw [hTL]; exact this
  have hRn : ∀ p : UInt8 → Bool, Ad.run p (s.data.toList.drop (at_ + 1)) ≤ s.size - (at_ + 1) := fun p => by have := Ad.run_le p (s.data.toList.drop (at_ + 1)); rw [List.length_drop, len_size] at this; exact this
  have hTz : T.size = s.size - at_ := by rw [← len_size, hTL, List.length_drop, len_size]
  have KR1 : ∀ W : World, _ := fun W => refRun_any s at_ 1 Ad.nameC (.inl ⟨rfl, rfl⟩) W (by omega) (by omega)
  have KR2 : ∀ W : World, _ := fun W => refRun_any s at_ 2 Ad.digit (.inr (.inl ⟨rfl, rfl⟩)) W (by omega) (by omega)
  have KR4 : ∀ W : World, _ := fun W => refRun_any s (at_ + 1) 4 Ad.pathC (.inr (.inr ⟨rfl, rfl⟩)) W (by omega) (by omega)
  have KQ := quoted_any s at_ (w.alloc (.cells zw 71)) (by omega) h0
  have KS := refSign_any s at_ (w.alloc (.cells zw 71)) (by omega) h0
  rw [← hTL] at KR1 KR2 KS
  have hTd : T.data.toList = s[at_] :: s.data.toList.drop (at_ + 1) := by rw [hTL, hd]
  generalize s.data.toList.drop (at_ + 1) = r at *
  clear hT hd hTL
  generalize s[at_] = c at *
  have LET := refLetter_any c
  have DIG := refDigitB_any c
  have HB1 := Lib.hid (show Below w.heap.size w (w.alloc (.cells zw 71)) from (Below.refl _ w).alloc (Nat.le_refl _) _)
  have HB0 := Lib.hid (Blk.new w 71 zw)
  cases hl : Ad.letter c with
  | true =>
    rw [hl] at LET
    have HF : Ad.wordX T.data.toList = if 32 < Ad.run Ad.nameC T.data.toList then .error 2 else .ok (⟨1, T.data.toList.take (Ad.run Ad.nameC T.data.toList), 0⟩, Ad.run Ad.nameC T.data.toList) := by
      rw [hTd]
      unfold Ad.wordX
      simp only [hl, if_true]
    have hn := hTn Ad.nameC
    clear hl DIG hTd KR2 KR4 KQ KS hTn hRn hext1 hTz
    generalize Ad.run Ad.nameC T.data.toList = n at *
    have LET := Lib.hid LET
    have KR1 := Lib.hid KR1
    by_cases h32 : 32 < n
    · replace HF := Lib.hid (HF.trans (if_pos h32))
      have HW := Lib.hid (wroteW w (.int .i64 0) (.string ⟨#[]⟩) (.int .i64 0) (.string ⟨#[]⟩) (.int .i64 0) (.int .i64 0) (.int .i64 0) (.int .i64 0) (.int .i64 0) (.int .i64 0) (.int .i64 0))
      clear hext HB1 HB0
      go_enter Tryz.func130, Tryz.ntmps130
      go_wp2_with (first | (go_at_call 206; refine (LET.out _).mono ?_; rintro e w' ⟨rfl, rfl⟩) | (go_at_call 207; refine (KR1.out _).mono ?_; rintro e w' ⟨rfl, rfl⟩))
      refine bodyPost_ret (refWord_res HW.out.1 rfl rfl rfl rfl) rfl ⟨WordOut.bad HF.out, HW.out.2⟩
    · replace HF := Lib.hid (HF.trans (if_neg h32))
      have HW := Lib.hid (wroteW w (.int .i64 1) (.string (s.extract at_ (at_ + n))) (.int .i64 0) (.string ⟨#[]⟩) (.int .i64 0) (.int .i64 0) (.int .i64 0) (.int .i64 0) (.int .i64 0) (.int .i64 0) (.int .i64 0))
      have HX := Lib.hid (bytes_eq (hext n))
      clear hext HB1 HB0
      go_enter Tryz.func130, Tryz.ntmps130
      go_wp2_with (first | (go_at_call 206; refine (LET.out _).mono ?_; rintro e w' ⟨rfl, rfl⟩) | (go_at_call 207; refine (KR1.out _).mono ?_; rintro e w' ⟨rfl, rfl⟩))
      refine bodyPost_ret (refWord_res HW.out.1 rfl rfl rfl rfl) rfl ⟨?_, HW.out.2⟩
      rw [HX.out]
      exact WordOut.good HF.out ⟨_, ⟨⟨#[]⟩, 0, 0, 0, 0, 0, rfl⟩, rfl⟩
  | false =>
    rw [hl] at LET
    have LET := Lib.hid LET
    cases hg : Ad.digit c with
    | true =>
      rw [hg] at DIG
      have HF : Ad.wordX T.data.toList = if P.numOk (T.data.toList.take (Ad.run Ad.digit T.data.toList)) = true then .ok (⟨2, T.data.toList.take (Ad.run Ad.digit T.data.toList), P.numV (T.data.toList.take (Ad.run Ad.digit T.data.toList))⟩, Ad.run Ad.digit T.data.toList) else .error 80 := by
        rw [hTd]
        unfold Ad.wordX
        simp only [hl, hg, Bool.false_eq_true, if_false, if_true]
      have hn := hTn Ad.digit
      clear hl hg hTd KR1 KR4 KQ KS hTn hRn hext1 hTz
      generalize Ad.run Ad.digit T.data.toList = n at *
      have DIG := Lib.hid DIG
      have KR2 := Lib.hid KR2
      have KN := fun W => refNumber_any (s.extract at_ (at_ + n)) W (by rw [ByteArray.size_extract]; unfold maxLen; omega)
      rw [hext n] at KN
      unfold P.numE at KN
      generalize hv : P.numV (T.data.toList.take n) = v at *
      cases hn : P.numOk (T.data.toList.take n) with
      | false =>
        rw [hn] at KN HF
        replace KN := Lib.hid KN
        replace HF := Lib.hid (HF.trans (if_neg (by simp)))
        have HW := Lib.hid (wroteW w (.int .i64 0) (.string ⟨#[]⟩) (.int .i64 0) (.string ⟨#[]⟩) (.int .i64 0) (.int .i64 0) (.int .i64 0) (.int .i64 0) (.int .i64 0) (.int .i64 0) (.int .i64 0))
        clear hext HB1 HB0
        go_enter Tryz.func130, Tryz.ntmps130
        go_wp2_with (first | (go_at_call 206; refine (LET.out _).mono ?_; rintro e w' ⟨rfl, rfl⟩) | (go_at_call 208; refine (DIG.out _).mono ?_; rintro e w' ⟨rfl, rfl⟩) | (go_at_call 207; refine (KR2.out _).mono ?_; rintro e w' ⟨rfl, rfl⟩) | (go_at_call 209; refine (KN.out _).mono ?_; rintro e w' ⟨rfl, rfl⟩))
        refine bodyPost_ret (refWord_res HW.out.1 rfl rfl rfl rfl) rfl ⟨WordOut.bad HF.out, HW.out.2⟩
      | true =>
        rw [hn] at KN HF
        replace KN := Lib.hid KN
        replace HF := Lib.hid (HF.trans (if_pos rfl))
        have HW := Lib.hid (wroteW w (.int .i64 2) (.string (s.extract at_ (at_ + n))) (.int .i64 v) (.string ⟨#[]⟩) (.int .i64 0) (.int .i64 0) (.int .i64 0) (.int .i64 0) (.int .i64 0) (.int .i64 0) (.int .i64 0))
        have HX := Lib.hid (bytes_eq (hext n))
        clear hext HB1 HB0
        go_enter Tryz.func130, Tryz.ntmps130
        go_wp2_with (first | (go_at_call 206; refine (LET.out _).mono ?_; rintro e w' ⟨rfl, rfl⟩) | (go_at_call 208; refine (DIG.out _).mono ?_; rintro e w' ⟨rfl, rfl⟩) | (go_at_call 207; refine (KR2.out _).mono ?_; rintro e w' ⟨rfl, rfl⟩) | (go_at_call 209; refine (KN.out _).mono ?_; rintro e w' ⟨rfl, rfl⟩))
        refine bodyPost_ret (refWord_res HW.out.1 rfl rfl rfl rfl) rfl ⟨?_, HW.out.2⟩
        rw [HX.out]
        exact WordOut.good HF.out ⟨_, ⟨⟨#[]⟩, 0, 0, 0, 0, 0, rfl⟩, rfl⟩
    | false =>
      rw [hg] at DIG
      have DIG := Lib.hid DIG
      by_cases c34 : c.toNat = 34
      · have HF : Ad.wordX T.data.toList = match Ad.text r with | none => .error 80 | some (v, n) => if 4096 < v.length then .error 2 else .ok (⟨3, v, 0⟩, n + 1) := by
          rw [hTd]
          unfold Ad.wordX
          simp only [hl, hg, c34, Bool.false_eq_true, if_false, if_true]
          rfl
        have q34 : ((c.toNat : Int) == 34) = true := by rw [c34]; rfl
        clear hl hg hTd KR1 KR2 KR4 KS hTn hRn hext hext1 c34
        unfold Ad.textV Ad.textN at KQ
        cases ht : Ad.text r with
        | none =>
          rw [ht] at KQ HF
          replace KQ := Lib.hid KQ
          replace HF := Lib.hid (show Ad.wordX T.data.toList = .error 80 from HF)
          go_enter Tryz.func130, Tryz.ntmps130
          go_wp2_with (first | (go_at_call 206; refine (LET.out _).mono ?_; rintro e w' ⟨rfl, rfl⟩) | (go_at_call 208; refine (DIG.out _).mono ?_; rintro e w' ⟨rfl, rfl⟩))
          refine KQ.out.mono ?_
          rintro e w1 ⟨rfl, hb1⟩
          have hg0 := HB0.out.below hb1 (by simp)
          have hB1 := HB1.out.trans (hb1.mono (by simp))
          have HW := Lib.hid (wrote11 (w := w) hg0 hB1 (Nat.le_refl _) (.int .i64 0) (.string ⟨#[]⟩) (.int .i64 0) (.string ⟨#[]⟩) (.int .i64 0) (.int .i64 0) (.int .i64 0) (.int .i64 0) (.int .i64 0) (.int .i64 0) (.int .i64 0))
          have r0 := hg0.cell
          have q0 := hg0.frozen
          clear hB1 hb1 hg0 HB1 HB0
          go_wp2_with fail
          refine bodyPost_ret (refWord_res HW.out.1 rfl rfl rfl rfl) rfl ⟨WordOut.bad HF.out, HW.out.2⟩
        | some y =>
          obtain ⟨v, m⟩ := y
          rw [ht] at KQ HF
          replace HF := Lib.hid (show Ad.wordX T.data.toList = if 4096 < v.length then .error 2 else .ok (⟨3, v, 0⟩, m + 1) from HF)
          obtain ⟨tb, htb⟩ : ∃ tb : ByteArray, tb = ⟨v.toArray⟩ := ⟨_, rfl⟩
          have hts : tb.size = v.length := by rw [htb, mk_size]
          have HTB := Lib.hid htb
          simp only at KQ
          rw [← htb] at KQ
          replace KQ := Lib.hid KQ
          have hm0 : (((m + 1 : Nat) : Int) == 0) = false := by rw [beq_eq_false_iff_ne]; omega
          clear htb ht
          by_cases hlen : 4096 < v.length
          · replace HF := Lib.hid (HF.out.trans (if_pos hlen))
            have hl2 : 4096 < tb.size := by omega
            clear hlen hts
            go_enter Tryz.func130, Tryz.ntmps130
            go_wp2_with (first | (go_at_call 206; refine (LET.out _).mono ?_; rintro e w' ⟨rfl, rfl⟩) | (go_at_call 208; refine (DIG.out _).mono ?_; rintro e w' ⟨rfl, rfl⟩))
            refine KQ.out.mono ?_
            rintro e w1 ⟨rfl, hb1⟩
            have hg0 := HB0.out.below hb1 (by simp)
            have hB1 := HB1.out.trans (hb1.mono (by simp))
            have HW := Lib.hid (wrote11 (w := w) hg0 hB1 (Nat.le_refl _) (.int .i64 0) (.string ⟨#[]⟩) (.int .i64 0) (.string ⟨#[]⟩) (.int .i64 0) (.int .i64 0) (.int .i64 0) (.int .i64 0) (.int .i64 0) (.int .i64 0) (.int .i64 0))
            have r0 := hg0.cell
            have q0 := hg0.frozen
            clear hB1 hb1 hg0 HB1 HB0
            go_wp2_with fail
            refine bodyPost_ret (refWord_res HW.out.1 rfl rfl rfl rfl) rfl ⟨WordOut.bad HF.out, HW.out.2⟩
          · replace HF := Lib.hid (HF.out.trans (if_neg hlen))
            have hl2 : ¬ 4096 < tb.size := by omega
            clear hlen hts
            go_enter Tryz.func130, Tryz.ntmps130
            go_wp2_with (first | (go_at_call 206; refine (LET.out _).mono ?_; rintro e w' ⟨rfl, rfl⟩) | (go_at_call 208; refine (DIG.out _).mono ?_; rintro e w' ⟨rfl, rfl⟩))
            refine KQ.out.mono ?_
            rintro e w1 ⟨rfl, hb1⟩
            have hg0 := HB0.out.below hb1 (by simp)
            have hB1 := HB1.out.trans (hb1.mono (by simp))
            have HW := Lib.hid (wrote11 (w := w) hg0 hB1 (Nat.le_refl _) (.int .i64 3) (.string tb) (.int .i64 0) (.string ⟨#[]⟩) (.int .i64 0) (.int .i64 0) (.int .i64 0) (.int .i64 0) (.int .i64 0) (.int .i64 0) (.int .i64 0))
            have r0 := hg0.cell
            have q0 := hg0.frozen
            clear hB1 hb1 hg0 HB1 HB0
            go_wp2_with fail
            refine bodyPost_ret (refWord_res HW.out.1 rfl rfl rfl rfl) rfl ⟨?_, HW.out.2⟩
            rw [HTB.out]
            exact WordOut.good HF.out ⟨_, ⟨⟨#[]⟩, 0, 0, 0, 0, 0, rfl⟩, rfl⟩
      · have q34 : ((c.toNat : Int) == 34) = false := by rw [beq_eq_false_iff_ne]; omega
        by_cases c64 : c.toNat = 64
        · have HF : Ad.wordX T.data.toList = if Ad.pathOk (r.take (Ad.run Ad.pathC r)) = true then .ok (⟨4, r.take (Ad.run Ad.pathC r), 0⟩, 1 + Ad.run Ad.pathC r) else .error 80 := by
            rw [hTd]
            unfold Ad.wordX
            simp only [hl, hg, c64, Bool.false_eq_true, if_false, if_true]
            rfl
          have hn := hRn Ad.pathC
          have q64 : ((c.toNat : Int) == 64) = true := by rw [c64]; rfl
          clear hl hg hTd KR1 KR2 KQ KS hTn hRn hext c34 c64
          generalize Ad.run Ad.pathC r = n at *
          rw [show ((at_ + 1 : Nat) : Int) = (at_ : Int) + 1 by omega] at KR4
          have KR4 := Lib.hid KR4
          have KP := fun W => refPath_any (s.extract (at_ + 1) (at_ + 1 + n)) W (by rw [ByteArray.size_extract]; omega)
          rw [hext1 n] at KP
          replace KP := Lib.hid KP
          have HX := Lib.hid (bytes_eq (hext1 n))
          replace HF := Lib.hid HF
          clear hext1
          go_enter Tryz.func130, Tryz.ntmps130
          go_wp2_with (first | (go_at_call 206; refine (LET.out _).mono ?_; rintro e w' ⟨rfl, rfl⟩) | (go_at_call 208; refine (DIG.out _).mono ?_; rintro e w' ⟨rfl, rfl⟩) | (go_at_call 207; refine (KR4.out _).mono ?_; rintro e w' ⟨rfl, rfl⟩))
          refine (KP.out _).mono ?_
          rintro e w1 ⟨⟨cs, er, ⟨pt, pa, pb, pc, pd, pe, rfl⟩, hok, rfl⟩, hb1⟩
          have hg0 := (HB0.out.below hb1 (by simp)).alloc (.cells #[.string pt, .int .i64 pa, .int .i64 pb, .int .i64 pc, .int .i64 pd, .int .i64 pe] 69)
          have hg2 := Blk.new w1 69 #[.string pt, .int .i64 pa, .int .i64 pb, .int .i64 pc, .int .i64 pd, .int .i64 pe]
          have hz1 : w.heap.size + 1 ≤ w1.heap.size := by have := hb1.size; simpa using this
          have hB1 : Below w.heap.size w (w1.alloc (.cells #[.string pt, .int .i64 pa, .int .i64 pb, .int .i64 pc, .int .i64 pd, .int .i64 pe] 69)) := (HB1.out.trans (hb1.mono (by simp))).alloc (by omega) _
          have r0 := hg0.cell
          have q0 := hg0.frozen
          by_cases her : er = 0
          · have HF2 := Lib.hid (HF.out.trans (if_pos (hok.1 her)))
            subst her
            clear hok
            have hw0 := wrote11 (w := w) hg0 hB1 (Nat.le_refl _) (.int .i64 4) (.string (s.extract (at_ + 1) (at_ + 1 + n))) (.int .i64 0) (.string pt) (.int .i64 pa) (.int .i64 pb) (.int .i64 pc) (.int .i64 pd) (.int .i64 pe) (.int .i64 0) (.int .i64 0)
            have HW := Lib.hid (And.intro hw0.1.drew hw0.2.drew)
            clear hw0
            have s0 : (w1.alloc (.cells #[.string pt, .int .i64 pa, .int .i64 pb, .int .i64 pc, .int .i64 pd, .int .i64 pe] 69)).cell? ⟨w1.heap.size, 0, none⟩ = some (.string pt) := hg2.cell 0
            have s1 : (w1.alloc (.cells #[.string pt, .int .i64 pa, .int .i64 pb, .int .i64 pc, .int .i64 pd, .int .i64 pe] 69)).cell? ⟨w1.heap.size, 1, none⟩ = some (.int .i64 pa) := hg2.cell 1
            have s2 : (w1.alloc (.cells #[.string pt, .int .i64 pa, .int .i64 pb, .int .i64 pc, .int .i64 pd, .int .i64 pe] 69)).cell? ⟨w1.heap.size, 2, none⟩ = some (.int .i64 pb) := hg2.cell 2
            have s3 : (w1.alloc (.cells #[.string pt, .int .i64 pa, .int .i64 pb, .int .i64 pc, .int .i64 pd, .int .i64 pe] 69)).cell? ⟨w1.heap.size, 3, none⟩ = some (.int .i64 pc) := hg2.cell 3
            have s4 : (w1.alloc (.cells #[.string pt, .int .i64 pa, .int .i64 pb, .int .i64 pc, .int .i64 pd, .int .i64 pe] 69)).cell? ⟨w1.heap.size, 4, none⟩ = some (.int .i64 pd) := hg2.cell 4
            have s5 : (w1.alloc (.cells #[.string pt, .int .i64 pa, .int .i64 pb, .int .i64 pc, .int .i64 pd, .int .i64 pe] 69)).cell? ⟨w1.heap.size, 5, none⟩ = some (.int .i64 pe) := hg2.cell 5
            clear hB1 hb1 hg0 hg2 hz1 HB1 HB0 HF
            go_wp2_with fail
            go_region
            go_wp2_with fail
            refine bodyPost_ret (refWord_res HW.out.1 rfl rfl rfl rfl) rfl ⟨?_, HW.out.2⟩
            rw [HX.out, show ((n : Int) + 1) = ((1 + n : Nat) : Int) by omega]
            exact WordOut.good HF2.out ⟨_, ⟨pt, pa, pb, pc, pd, pe, rfl⟩, rfl⟩
          · have HF2 := Lib.hid (HF.out.trans (if_neg fun h => her (hok.2 h)))
            clear hok
            have h1 : (er != 0) = true := by rw [bne_iff_ne]; exact her
            have HW := Lib.hid (wrote11 (w := w) hg0 hB1 (Nat.le_refl _) (.int .i64 0) (.string ⟨#[]⟩) (.int .i64 0) (.string ⟨#[]⟩) (.int .i64 0) (.int .i64 0) (.int .i64 0) (.int .i64 0) (.int .i64 0) (.int .i64 0) (.int .i64 0))
            clear hB1 hb1 hg0 hg2 hz1 HB1 HB0 HF HX
            go_wp2_with fail
            refine bodyPost_ret (refWord_res HW.out.1 rfl rfl rfl rfl) rfl ⟨WordOut.bad HF2.out, HW.out.2⟩
        · have q64 : ((c.toNat : Int) == 64) = false := by rw [beq_eq_false_iff_ne]; omega
          have HF : Ad.wordX T.data.toList = if Ad.signN T.data.toList = 0 then .error 80 else .ok (⟨5, T.data.toList.take (Ad.signN T.data.toList), 0⟩, Ad.signN T.data.toList) := by
            rw [hTd]
            unfold Ad.wordX
            simp only [hl, hg, c34, c64, Bool.false_eq_true, if_false]
          have hsl := Ad.signN_len T.data.toList
          clear hl hg hTd KR1 KR2 KR4 KQ hTn hRn hext hext1 c34 c64
          generalize Ad.signN T.data.toList = n at *
          obtain ⟨tb, htb⟩ : ∃ tb : ByteArray, tb = ⟨(T.data.toList.take n).toArray⟩ := ⟨_, rfl⟩
          have hts : tb.size = n := by rw [htb, mk_size, List.length_take]; omega
          rw [← htb] at KS
          have HTB := Lib.hid htb
          replace KS := Lib.hid KS
          clear htb hsl
          by_cases hn : n = 0
          · replace HF := Lib.hid (HF.trans (if_pos hn))
            obtain rfl := text_empty (s := tb) (by omega)
            clear hts hn HTB
            go_enter Tryz.func130, Tryz.ntmps130
            go_wp2_with (first | (go_at_call 206; refine (LET.out _).mono ?_; rintro e w' ⟨rfl, rfl⟩) | (go_at_call 208; refine (DIG.out _).mono ?_; rintro e w' ⟨rfl, rfl⟩))
            refine KS.out.mono ?_
            rintro e w1 ⟨rfl, hb1⟩
            have hg0 := HB0.out.below hb1 (by simp)
            have hB1 := HB1.out.trans (hb1.mono (by simp))
            have HW := Lib.hid (wrote11 (w := w) hg0 hB1 (Nat.le_refl _) (.int .i64 0) (.string ⟨#[]⟩) (.int .i64 0) (.string ⟨#[]⟩) (.int .i64 0) (.int .i64 0) (.int .i64 0) (.int .i64 0) (.int .i64 0) (.int .i64 0) (.int .i64 0))
            have r0 := hg0.cell
            have q0 := hg0.frozen
            clear hB1 hb1 hg0 HB1 HB0
            go_wp2_with fail
            refine bodyPost_ret (refWord_res HW.out.1 rfl rfl rfl rfl) rfl ⟨WordOut.bad HF.out, HW.out.2⟩
          · replace HF := Lib.hid (HF.trans (if_neg hn))
            have hne := text_ne (s := tb) (by omega)
            have HTS := Lib.hid hts
            clear hts hn
            go_enter Tryz.func130, Tryz.ntmps130
            go_wp2_with (first | (go_at_call 206; refine (LET.out _).mono ?_; rintro e w' ⟨rfl, rfl⟩) | (go_at_call 208; refine (DIG.out _).mono ?_; rintro e w' ⟨rfl, rfl⟩))
            refine KS.out.mono ?_
            rintro e w1 ⟨rfl, hb1⟩
            have hg0 := HB0.out.below hb1 (by simp)
            have hB1 := HB1.out.trans (hb1.mono (by simp))
            have HW := Lib.hid (wrote11 (w := w) hg0 hB1 (Nat.le_refl _) (.int .i64 5) (.string tb) (.int .i64 0) (.string ⟨#[]⟩) (.int .i64 0) (.int .i64 0) (.int .i64 0) (.int .i64 0) (.int .i64 0) (.int .i64 0) (.int .i64 0))
            have r0 := hg0.cell
            have q0 := hg0.frozen
            clear hB1 hb1 hg0 HB1 HB0
            go_wp2_with fail
            refine bodyPost_ret (refWord_res HW.out.1 rfl rfl rfl rfl) rfl ⟨?_, HW.out.2⟩
            rw [HTB.out, mk_size, ← mk_size, ← HTB.out, HTS.out]
            rw [HTB.out]
            exact WordOut.good HF.out ⟨_, ⟨⟨#[]⟩, 0, 0, 0, 0, 0, rfl⟩, rfl⟩
end Go.Proofs.YtmabpnmnppfgaaaGreatDoor
namespace Go.Proofs.YtmabpnmnppfgaaaGreatDoor
set_option linter.unusedVariables false
open Go Go.RowKit Go.BigFrame
theorem results_tmp_cell {fn : Func} {p u : Tmp} {ty : TypeId} (h : fn.results = #[.tmp u, .cell p ty]) (tmps : Array Value) (P : Program) (w : World) :
    (results fn tmps).run P w =
      ((asAddr (tmps.getD p undef)).run P w).andThen fun a w₁ => ((loadVar ty a).run P w₁).andThen fun x w₂ => .ok (.tuple #[tmps.getD u undef, x]) w₂ := by
  simp only [results, h]
  simp [Sem.run_bind, Result.andThen]
set_option maxRecDepth 100000 in
theorem refScan_res {W : World} {tmps : Array Value} {g : Nat} {v : Value} {a b c : Int} (hW : Blk W g 63 #[.int .i64 a, .int .i64 b, .int .i64 c]) (h2 : tmps.getD 2 undef = v) (h3 : tmps.getD 3 undef = .pointer (some ⟨g, 0, none⟩)) :
    (results Tryz.f19 tmps).run Tryz.prog W = .ok (.tuple #[v, .agg #[.int .i64 a, .int .i64 b, .int .i64 c]]) W := by
  rw [results_tmp_cell rfl, h2, h3]
  have c0 := hW.cell
  simp [go_sem, c0]
theorem wrote3 {w W : World} {g : Nat} {t : TypeId} {x y z : Value} (h : Blk W g t #[x, y, z]) (hb : Below w.heap.size w W) (hg : w.heap.size ≤ g) (a b c : Value) :
    Blk (((W.setCell ⟨g, 0, none⟩ a).setCell ⟨g, 1, none⟩ b).setCell ⟨g, 2, none⟩ c) g t #[a, b, c] ∧ Below w.heap.size w (((W.setCell ⟨g, 0, none⟩ a).setCell ⟨g, 1, none⟩ b).setCell ⟨g, 2, none⟩ c) := by
  constructor
  · have hx := ((h.set_ 0 a).set_ 1 b).set_ 2 c
    simp only [List.setIfInBounds_toArray, List.set_cons_zero, List.set_cons_succ] at hx
    exact hx
  · exact ((hb.setCell hg a).setCell hg b).setCell hg c
def RScanOut (s : ByteArray) (w : World) (e : Ending) (w' : World) : Prop :=
  ∃ x, (s.size ≤ 65536 → Ad.ScanX s.data.toList x) ∧ (65536 < s.size → x = .error 2) ∧ match x with
    | .error er => ∃ a b : Int, e = .returned (.tuple #[.slice none 0 0, .agg #[.int .i64 er, .int .i64 a, .int .i64 b]])
    | .ok toks => ∃ g c, toks.length ≤ s.size ∧ e = .returned (.tuple #[.slice (some ⟨g, 0, none⟩) (toks.length + 1) c, .agg #[.int .i64 0, .int .i64 0, .int .i64 0]]) ∧ LAt tokE w' (New w w') (some ⟨g, 0, none⟩) (toks.length + 1) (toks ++ [⟨0, [], 0⟩]) ∧ toks.length + 1 ≤ c ∧ c ≤ maxLen
set_option maxRecDepth 100000 in
set_option maxHeartbeats 4000000 in
theorem refScan_any (s : ByteArray) (w : World) (hs : s.size ≤ 100000) :
    Calls Tryz.prog 19 #[.string s] w fun e w' => RScanOut s w e w' ∧ Below w.heap.size w w' := by
  obtain ⟨L, hL⟩ : ∃ L, L = s.data.toList := ⟨_, rfl⟩
  have HLen := Lib.hid (show L.length = s.size by rw [hL]; simp)
  have HL := Lib.hid hL
  clear hL
  by_cases hbig : 65536 < s.size
  · have HE := Lib.hid (Blk.new w 63 #[.int .i64 2, .int .i64 0, .int .i64 0])
    go_enter Tryz.func19, Tryz.ntmps19
    go_wp2_with fail
    refine bodyPost_ret (refScan_res HE.out rfl rfl) rfl ?_
    exact ⟨⟨.error 2, fun h => by omega, fun _ => rfl, _, _, rfl⟩, (Below.refl _ _).alloc (Nat.le_refl _) _⟩
  · obtain ⟨wb, hwb⟩ : ∃ wb, wb = w.alloc (.cells #[.int .i64 0, .int .i64 0, .int .i64 0] 63) := ⟨_, rfl⟩
    have HE := Lib.hid (show Blk wb w.heap.size 63 #[.int .i64 0, .int .i64 0, .int .i64 0] from hwb ▸ Blk.new w _ _)
    have HB := Lib.hid (show Below w.heap.size w wb from hwb ▸ (Below.refl _ w).alloc (Nat.le_refl _) _)
    have hzb : w.heap.size + 1 = wb.heap.size := by rw [hwb]; simp
    have HZB := Lib.hid hzb
    go_enter Tryz.func19, Tryz.ntmps19
    go_wp2_with fail
    rw [← hwb]
    clear hwb hzb
    go_loopw [4, 5, 6, 7] (fun v lnv frv x wr => ∃ (k : Nat) (ln bg : Int) (toks : List Ad.Tok), lnv = .int .i64 ln ∧ frv = .int .i64 bg ∧ x = .int .i64 k ∧ k ≤ s.size ∧ (0 ≤ ln ∧ ln ≤ k + 1) ∧ (0 ≤ bg ∧ bg ≤ k) ∧ toks.length ≤ k ∧ RowKit.Hid (Ad.ScanAt L k toks) ∧ OwnE tokE 71 wr wb.heap.size nowhere v toks ∧ Below wb.heap.size wb wr) (fun _ _ _ x _ => s.size - (intOf x).toNat)
    case atStart => exact ⟨0, 1, 0, [], rfl, rfl, rfl, by omega, by omega, by omega, by simp, Lib.hid (Ad.ScanAt.start L), OwnE.nil (fun b hb => hb.elim), Below.refl _ _⟩
    case round =>
      obtain ⟨k, ln, bg, toks, rfl, rfl, rfl, hk, hln, hbg, htl, HAT, hown, hbel⟩ := hrel
      by_cases hlt : k < s.size
      · have hd : L.drop k = s[k] :: L.drop (k + 1) := by
          rw [HL.out, List.drop_eq_getElem_cons (by simpa using hlt)]; rfl
        have HD := Lib.hid hd
        clear hd
        have hi1 : ∀ W : World, (Instr.index 9 (.string s) (.int .i64 (k : Int))).run Tryz.prog W = .ok (.int .u8 (s[k].toNat : Int)) W := fun W => idx_atu s k hlt rfl W
        have hc := s[k].toNat_lt
        have HSK := Lib.hid (show ∀ c, s[k] = c → ∀ (h : k < s.size), s[k] = c from fun c h _ => h)
        by_cases hbl : Ad.blank s[k]
        · have HA := Lib.hid (HAT.out.skip HD.out hbl)
          generalize s[k] = c at *
          have hbl2 : c.toNat = 10 ∨ (c.toNat ≠ 10 ∧ c.toNat = 32) ∨ (c.toNat ≠ 10 ∧ c.toNat ≠ 32 ∧ c.toNat = 9) ∨ (c.toNat ≠ 10 ∧ c.toNat ≠ 32 ∧ c.toNat ≠ 9 ∧ c.toNat = 13) := by unfold Ad.blank at hbl; omega
          clear hbl HSK HD
          rcases hbl2 with h | ⟨h1, h⟩ | ⟨h1, h2, h⟩ | ⟨h1, h2, h3, h⟩
          · have q1 : ((c.toNat : Int) == 10) = true := by rw [h]; rfl
            clear h
            go_wp2_with fail
            go_roundw
            case rel => exact ⟨k + 1, ln + 1, (k : Int) + 1, toks, by go_num, by go_num, by go_num, by omega, by omega, by omega, by omega, HA, hown, hbel⟩
            case measure => simp [intOf]; omega
          · have q1 : ((c.toNat : Int) == 10) = false := by rw [h]; rfl
            have q2 : ((c.toNat : Int) == 32) = true := by rw [h]; rfl
            clear h h1
            go_wp2_with fail
            go_roundw
            case rel => exact ⟨k + 1, ln, bg, toks, rfl, rfl, by go_num, by omega, by omega, by omega, by omega, HA, hown, hbel⟩
            case measure => simp [intOf]; omega
          · have q1 : ((c.toNat : Int) == 10) = false := by rw [h]; rfl
            have q2 : ((c.toNat : Int) == 32) = false := by rw [h]; rfl
            have q3 : ((c.toNat : Int) == 9) = true := by rw [h]; rfl
            clear h h1 h2
            go_wp2_with fail
            go_roundw
            case rel => exact ⟨k + 1, ln, bg, toks, rfl, rfl, by go_num, by omega, by omega, by omega, by omega, HA, hown, hbel⟩
            case measure => simp [intOf]; omega
          · have q1 : ((c.toNat : Int) == 10) = false := by rw [h]; rfl
            have q2 : ((c.toNat : Int) == 32) = false := by rw [h]; rfl
            have q3 : ((c.toNat : Int) == 9) = false := by rw [h]; rfl
            have q4 : ((c.toNat : Int) == 13) = true := by rw [h]; rfl
            clear h h1 h2 h3
            go_wp2_with fail
            go_roundw
            case rel => exact ⟨k + 1, ln, bg, toks, rfl, rfl, by go_num, by omega, by omega, by omega, by omega, HA, hown, hbel⟩
            case measure => simp [intOf]; omega
        · have q1 : ((s[k].toNat : Int) == 10) = false := by rw [beq_eq_false_iff_ne]; unfold Ad.blank at hbl; omega
          have q2 : ((s[k].toNat : Int) == 32) = false := by rw [beq_eq_false_iff_ne]; unfold Ad.blank at hbl; omega
          have q3 : ((s[k].toNat : Int) == 9) = false := by rw [beq_eq_false_iff_ne]; unfold Ad.blank at hbl; omega
          have q4 : ((s[k].toNat : Int) == 13) = false := by rw [beq_eq_false_iff_ne]; unfold Ad.blank at hbl; omega
          by_cases h35 : s[k].toNat = 35
          · have q5 : ((s[k].toNat : Int) == 35) = true := by rw [h35]; rfl
            have HRM := Lib.hid (fun j hj => HAT.out.remark HD.out h35 j hj)
            have H35 := Lib.hid h35
            clear hbl h35 HSK HD HAT
            go_wp2_with fail
            go_loopw [7] (fun x wr2 => ∃ j : Nat, x = .int .i64 j ∧ k ≤ j ∧ j ≤ s.size ∧ wr2 = wr ∧ RowKit.Hid (∀ i, k ≤ i → i < j → ∃ c, L[i]? = some c ∧ Ad.inLine c = true)) (fun x _ => s.size - (intOf x).toNat)
            case atStart => exact ⟨k, rfl, Nat.le_refl _, hk, rfl, Lib.hid (fun i h1 h2 => absurd h1 (by omega))⟩
            case round =>
              obtain ⟨j, rfl, hkj, hj, rfl, HIN⟩ := hrel
              by_cases hlj : j < s.size
              · have hi2 : ∀ W : World, (Instr.index 9 (.string s) (.int .i64 (j : Int))).run Tryz.prog W = .ok (.int .u8 (s[j].toNat : Int)) W := fun W => idx_atu s j hlj rfl W
                by_cases h10 : s[j].toNat = 10
                · have hne : k + 1 ≤ j := by
                    rcases Nat.lt_or_ge k j with h | h
                    · exact h
                    · have : j = k := by omega
                      subst this
                      have h35 := H35.out
                      rw [h35] at h10
                      cases h10
                  have q6 : ((s[j].toNat : Int) != 10) = false := by rw [h10]; rfl
                  have HA := Lib.hid (HRM.out j (by
                    have := Ad.dropW Ad.inLine (L.drop (k + 1)) (j - (k + 1)) (fun i hi => by
                      have := HIN.out (k + 1 + i) (by omega) (by omega)
                      rwa [List.getElem?_drop]) (fun c hc => by
                      rw [List.getElem?_drop, show k + 1 + (j - (k + 1)) = j by omega, HL.out, List.getElem?_eq_getElem (by simpa using hlj)] at hc
                      cases hc
                      unfold Ad.inLine
                      exact decide_eq_false (fun h => h h10))
                    rw [this, List.drop_drop, show k + 1 + (j - (k + 1)) = j by omega]))
                  clear h10 HIN HRM
                  go_wp2_with fail
                  go_roundw
                  case rel => exact ⟨j, ln, bg, toks, rfl, rfl, rfl, hj, by omega, by omega, by omega, HA, hown, hbel⟩
                  case measure => simp [intOf]; omega
                · have q6 : ((s[j].toNat : Int) != 10) = true := by rw [bne_iff_ne]; omega
                  have HIN2 := Lib.hid (show ∀ i, k ≤ i → i < j + 1 → ∃ c, L[i]? = some c ∧ Ad.inLine c = true from fun i h1 h2 => by
                    rcases Nat.lt_or_ge i j with h | h
                    · exact HIN.out i h1 h
                    · obtain rfl : i = j := by omega
                      refine ⟨s[i], ?_, by unfold Ad.inLine; exact decide_eq_true h10⟩
                      rw [HL.out, List.getElem?_eq_getElem (by simpa using hlj)]
                      rfl)
                  clear h10 HIN HRM
                  go_wp2_with fail
                  go_roundw
                  case rel => exact ⟨j + 1, by go_num, by omega, by omega, by trivial, HIN2⟩
                  case measure => simp [intOf]; omega
              · obtain rfl : j = s.size := by omega
                have HA := Lib.hid (HRM.out s.size (by
                  have := Ad.dropW Ad.inLine (L.drop (k + 1)) (s.size - (k + 1)) (fun i hi => by
                      have := HIN.out (k + 1 + i) (by omega) (by omega)
                      rwa [List.getElem?_drop]) (fun c hc => by
                      rw [List.getElem?_drop, List.getElem?_eq_none (by rw [HLen.out]; omega)] at hc
                      cases hc)
                  rw [this, List.drop_drop, show k + 1 + (s.size - (k + 1)) = s.size by omega]))
                clear HIN HRM
                go_wp2_with fail
                go_roundw
                case rel => exact ⟨s.size, ln, bg, toks, rfl, rfl, rfl, Nat.le_refl _, by omega, by omega, by omega, HA, hown, hbel⟩
                case measure => simp [intOf]; omega
          · have q5 : ((s[k].toNat : Int) == 35) = false := by rw [beq_eq_false_iff_ne]; omega
            have HW1 := Lib.hid (fun t n hw => HAT.out.word HD.out hbl h35 (t := t) (n := n) hw)
            have HW2 := Lib.hid (fun er hw => HAT.out.bad HD.out hbl h35 (er := er) hw)
            obtain ⟨x, hwr⟩ : ∃ x, Ad.wordX (L.drop k) = x := ⟨_, rfl⟩
            have hse : (⟨(s.data.toList.drop k).toArray⟩ : ByteArray).data.toList = L.drop k := by rw [HL.out]
            have KW0 : ∀ W : World, _ := fun W => refWord_any s k W hs hlt
            unfold WordOut at KW0
            rw [hse, hwr] at KW0
            have KW := Lib.hid KW0
            have HWR := Lib.hid hwr
            generalize s[k] = c at *
            clear hbl h35 hse KW0 hwr HSK HD
            go_wp2_with fail
            refine (KW.out _).mono ?_
            rintro e w1 ⟨hx, hb1⟩
            have hown1 := hown.below hb1
            have hbel1 := hbel.trans (hb1.mono hbel.size)
            clear hown hbel hb1 KW hi1 q1 q2 q3 q4 q5
            cases x with
            | error er =>
              have hx : e = _ := hx
              subst hx
              have HX := Lib.hid (HW2.out er HWR.out)
              have her : er ≠ 0 := by rcases Ad.wordX_err HWR.out with h | h <;> omega
              have hb2 : Below w1.heap.size w1 (w1.alloc (.cells zw 71)) := (Below.refl _ w1).alloc (Nat.le_refl _) _
              have q6 : (er != 0) = true := by rw [bne_iff_ne]; exact her
              have E1 := Lib.hid (HE.out.below hbel1 (by have := HZB.out; omega))
              have HB1 := Lib.hid (HB.out.trans (hbel1.mono (by have := HZB.out; omega)))
              clear her hown1
              go_wp2_with (refine wpList_store_blk (cs' := zw) rfl 71 (.tmp 8) (.tmp 23) rfl w1.heap.size rfl rfl (Blk.new w1 71 zw) rfl (by kernel_rfl) (by simp [Value.oneCell']) ?_; intro w2 hk2 hg2; have B2 := Lib.hid (below_grown hg2 (show w1.heap.size ≤ _ by simp) (Nat.le_refl _)); have B3 := Lib.hid (hb2.trans (B2.out.mono (Nat.le_refl _))); have E2 := Lib.hid (E1.out.below B3.out E1.out.lt); have e2 := E2.out.cell; have f2 := E2.out.frozen; clear hk2 hg2 hb2 B2)
              have HW := Lib.hid (wrote3 (w := w) E2.out (HB1.out.trans (B3.out.mono HB1.out.size)) (Nat.le_refl _) (.int .i64 er) (.int .i64 ln) (.int .i64 ((k : Int) - bg + 1)))
              refine bodyPost_ret (refScan_res HW.out.1 rfl rfl) rfl ?_
              exact ⟨⟨.error er, fun _ => HL.out ▸ HX.out, fun h => absurd h hbig, _, _, rfl⟩, HW.out.2⟩
            | ok y =>
              obtain ⟨t, n⟩ := y
              obtain ⟨cs, ⟨p, ⟨pt, pa, pb, pc, pd, pe, rfl⟩, rfl⟩, rfl⟩ := hx
              have HX := Lib.hid (HW1.out t n HWR.out)
              have hn := Ad.wordX_len HWR.out
              have hn2 : k + n ≤ s.size := by have := HLen.out; rw [List.length_drop] at hn; omega
              obtain ⟨hn1, -⟩ := hn
              clear HWR HW1 HW2 HAT
              obtain ⟨it, J1, J2, J3, J4⟩ := info_parts infoWord
              have NW := Lib.hid (fun (W : World) (l c : Int) (g : Nat) (hg : W.heap.size = g) => hg ▸ news_one (E := tokE) (w := W) (S := nowhere) (x := t) (cs := [.int .i64 t.kind, .string ⟨t.text.toArray⟩, .int .i64 t.num, .string pt, .int .i64 pa, .int .i64 pb, .int .i64 pc, .int .i64 pd, .int .i64 pe, .int .i64 l, .int .i64 c]) (T' := 71) ⟨_, l, c, ⟨pt, pa, pb, pc, pd, pe, rfl⟩, rfl⟩ (fun b hb => hb.elim))
              go_wp2_with (first | (refine wpList_store_blk (cs' := #[.int .i64 t.kind, .string ⟨t.text.toArray⟩, .int .i64 t.num, .string pt, .int .i64 pa, .int .i64 pb, .int .i64 pc, .int .i64 pd, .int .i64 pe, .int .i64 0, .int .i64 0]) rfl 71 (.tmp 8) (.tmp 23) rfl w1.heap.size rfl rfl (Blk.new w1 71 zw) rfl (by kernel_rfl) (by simp [Value.oneCell']) ?_; intro w2 hk2 hg2; have K2 := Lib.hid hk2; have B2 := Lib.hid (((Below.refl _ w1).alloc (Nat.le_refl _) (.cells zw 71)).trans ((below_grown hg2 (show w1.heap.size ≤ _ by simp) (Nat.le_refl _)))); have d2 := hk2.cell; have f2 := hk2.frozen; clear hk2 hg2) | (at_builtin; go_loud (refine wpList_append_E rfl (.tmp 42) (.tmp 44) _ rfl it (.agg zw) 104 Tryz.underlying61 J1 J2 J3 J4 rfl rfl (hown1.below (((B2.out.setCell (Nat.le_refl _) _).setCell (Nat.le_refl _) _).alloc (by have := B2.out.size; simp; omega) _)) ⟨_, 0, none⟩ 1 1 [t] rfl rfl (NW.out _ _ _ _ (by simp)) (by omega) (by omega) (by have := B2.out.size; have := hbel1.size; simp; omega) ?_; intro o4 w4 hown4 hb4 hg4 hw4)))
              have Hb4 := Lib.hid (hbel1.trans ((((B2.out.setCell (p := ⟨w1.heap.size, 9, none⟩) (Nat.le_refl _) (.int .i64 ln)).setCell (p := ⟨w1.heap.size, 10, none⟩) (Nat.le_refl _) (.int .i64 ((k : Int) - bg + 1))).alloc (by have := B2.out.size; simp; omega) _).mono hbel1.size) |>.trans hb4)
              clear hb4 hg4 hw4 d2 f2 NW K2 B2 hown1 hbel1 J1 J2 J3 J4
              go_wp2_with fail
              go_roundw
              case rel => exact ⟨k + n, ln, bg, toks ++ [t], rfl, rfl, by go_num, by omega, by omega, by omega, by simp; omega, HX, hown4, Hb4.out⟩
              case measure => simp [intOf]; omega
      · obtain rfl : k = s.size := by omega
        have HX := Lib.hid (HAT.out.done (by rw [HLen.out]; exact Nat.le_refl _))
        obtain ⟨it, J1, J2, J3, J4⟩ := info_parts infoWord
        have NW := Lib.hid (fun (W : World) (l c : Int) (g : Nat) (hg : W.heap.size = g) => hg ▸ news_one (E := tokE) (w := W) (S := nowhere) (x := ⟨0, [], 0⟩) (cs := [.int .i64 0, .string ⟨#[]⟩, .int .i64 0, .string ⟨#[]⟩, .int .i64 0, .int .i64 0, .int .i64 0, .int .i64 0, .int .i64 0, .int .i64 l, .int .i64 c]) (T' := 71) ⟨_, l, c, ⟨_, _, _, _, _, _, rfl⟩, rfl⟩ (fun b hb => hb.elim))
        clear HAT
        go_wp2_with (at_builtin; go_loud (refine wpList_append_E rfl (.tmp 95) (.tmp 103) _ rfl it (.agg zw) 104 Tryz.underlying61 J1 J2 J3 J4 rfl rfl (hown.alloc _) ⟨_, 0, none⟩ 1 1 [⟨0, [], 0⟩] rfl rfl (NW.out _ _ _ _ (by simp)) (by omega) (by omega) (by have := hbel.size; simp; omega) ?_; intro o4 w4 hown4 hb4 hg4 hw4; have Hb4 := Lib.hid ((hbel.alloc hbel.size _).trans hb4); have E4 := Lib.hid (HE.out.below Hb4.out (by have := HZB.out; omega)); have e4 := E4.out.cell; have f4 := E4.out.frozen; clear hb4 hg4 hw4))
        have HW := Lib.hid (wrote3 (w := w) E4.out (HB.out.trans (Hb4.out.mono HB.out.size)) (Nat.le_refl _) (.int .i64 0) (.int .i64 0) (.int .i64 0))
        refine bodyPost_ret (refScan_res HW.out.1 rfl rfl) rfl ?_
        obtain ⟨A, c, e1, hok, hl⟩ := Enc.list_inv (hown4.reads (S' := New wb w4) (fun b hb => hb.elim) (fun g hg => hown4.own_lt hg) (by simp; omega))
        rcases hown4.form with ⟨_, h⟩ | ⟨g, cap, e2, -, -, hnc, hcm⟩
        · simp at h
        · rw [e2] at e1
          injection e1 with e3 _ e4
          subst e2 e3 e4
          rw [List.length_append, List.length_singleton] at hl hnc ⊢
          have hz := HZB.out
          refine ⟨⟨.ok toks, fun _ => HL.out ▸ HX.out, fun h => by omega, g, cap, htl, rfl, hl.keep (fun b hb => ⟨by have := hb.1; omega, by have := hb.2; simpa using this⟩) (fun p hp => World.cell?_of_block ?_), hnc, hcm⟩, HW.out.2⟩
          have hpn : p.block ≠ w.heap.size := by have := hp.1; omega
          rw [Below.heap_setCell _ _ _ _ (by simpa using hpn), Below.heap_setCell _ _ _ _ (by simpa using hpn), Below.heap_setCell _ _ _ _ (by simpa using hpn)]
end Go.Proofs.YtmabpnmnppfgaaaGreatDoor
