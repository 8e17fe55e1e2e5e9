/- EscapeOther: the walk: where no escape sign stands a text is read as it is; an escape that means nothing stays. -/
import Derived.Test.YtefebcibcmjbaabEscTells
namespace Go.Proofs.Ytefebcibcmjbaab
set_option linter.unusedVariables false
open Go.RowKit Go.BigFrame
namespace P
theorem read_same {f c r e s : UInt8} (l : List UInt8) (h : e ∉ l) : read f c r e s l = l := by
  have := read_no (f := f) (c := c) (r := r) (s := s) [] l h
  simpa [read_nil] using this
theorem read_e {f c r e s : UInt8} (l : List UInt8) (h : e ∉ l) : read f c r e s (l ++ [e]) = l ++ [e] := by
  rw [read_no [e] l h, read_open (t := []) rfl, read_nil]
theorem read_ee {f c r e s : UInt8} (l u : List UInt8) (h : e ∉ l) (hu : e ∉ u) (hm : means f c r e s u = none) : read f c r e s (l ++ (e :: (u ++ e :: l))) = l ++ (e :: (u ++ e :: l)) := by
  rw [read_no _ l h, read_none (cut_mk u l hu) hm, read_no _ u hu, read_open (cut_none l h), read_same l h]
theorem means_out {f c r e s : UInt8} {u : List UInt8} (h1 : u ≠ [70]) (h2 : u ≠ [83]) (h3 : u ≠ [84]) (h4 : u ≠ [82]) (h5 : u ≠ [69]) (h6 : ∀ d, u ≠ 88 :: d) : means f c r e s u = none :=
  (means_no (by unfold sign; rw [if_neg h1, if_neg h2, if_neg h3, if_neg h4, if_neg h5]) h6).1
end P
theorem idx_val7 (s : ByteArray) (k : Nat) (hk : k < s.size) {i : Int} (hi : i = (k : Int)) (W : World) : (Instr.index 9 (.string s) (.int .i64 i)).run Try.prog W = .ok (.int .u8 ((s.data.toList.getD k 0).toNat : Int)) W := by
  rw [idx_atu s k hk hi W]
  congr 2
  have : s.data.toList.getD k 0 = s[k] := by
    rw [List.getD_eq_getElem?_getD, List.getElem?_eq_getElem (by simpa using hk)]
    rfl
  rw [this]
theorem mk_str7 (t : ByteArray) : (⟨t.data.toList.toArray⟩ : ByteArray) = t := by cases t; rfl
theorem not_in (t u : ByteArray) (e : UInt8) (h : ∀ j, j < t.size + u.size → (t ++ u).data.toList.getD j 0 ≠ e) : e ∉ t.data.toList ∧ e ∉ u.data.toList := by
  have hd : (t ++ u).data.toList = t.data.toList ++ u.data.toList := by simp [ByteArray.data_append]
  have : e ∉ t.data.toList ++ u.data.toList := by
    intro hm
    obtain ⟨j, hj, hje⟩ := List.mem_iff_getElem.1 hm
    refine h j (by simpa using hj) ?_
    rw [hd, List.getD_eq_getElem?_getD, List.getElem?_eq_getElem hj]
    exact hje
  simp only [List.mem_append, not_or] at this
  exact this
set_option maxRecDepth 100000 in
set_option maxHeartbeats 4000000 in
theorem escapeOther_any (f c r e s : UInt8) (t u : ByteArray) (w : World) (ht : t.size ≤ 140737488351232) (hu : u.size ≤ 140737488351232) :
    Calls Try.prog 6 #[.agg #[.int .u8 (f.toNat : Int), .int .u8 (c.toNat : Int), .int .u8 (r.toNat : Int), .int .u8 (e.toNat : Int), .int .u8 (s.toNat : Int)], .string t, .string u] w fun x w' => x = .returned (.bool true) ∧ Below w.heap.size w w' := by
  by_cases hz : 9000 < t.size + u.size
  · have d1 : decide ((9000 : Int) < (t.size : Int) + (u.size : Int)) = true := decide_eq_true (by omega)
    go_enter Try.func6, Try.ntmps6
    go_wp2_with fail
    refine (alive7 _).mono ?_
    rintro x w1 ⟨rfl, hb1⟩
    have B1 := Lib.hid (box_below hb1)
    clear hb1
    go_wp2
    go_ret
    exact ⟨rfl, B1.out⟩
  have d1 : decide ((9000 : Int) < (t.size : Int) + (u.size : Int)) = false := decide_eq_false (by omega)
  have vc := fun W => valid_any f c r e s W
  cases hv : P.valid [f, c, r, e, s]
  · rw [hv] at vc
    have VC := Lib.hid vc
    clear vc hv
    go_enter Try.func6, Try.ntmps6
    go_wp2_with fail
    refine (VC.out _).mono ?_
    rintro x w1 ⟨rfl, hb1⟩
    have B1 := Lib.hid (box_below hb1)
    clear hb1
    go_wp2_with fail
    refine (alive7 _).mono ?_
    rintro x w2 ⟨rfl, hb2⟩
    have B2 := Lib.hid (bt'' B1.out hb2)
    clear hb2
    go_wp2
    go_ret
    exact ⟨rfl, B2.out⟩
  · have HV := Lib.hid hv
    rw [hv] at vc
    have VC := Lib.hid vc
    clear vc hv
    have hz9 : ¬ (9223372036854775807 < t.size + u.size) := by omega
    go_enter Try.func6, Try.ntmps6
    go_wp2_with fail
    refine (VC.out _).mono ?_
    rintro x w1 ⟨rfl, hb1⟩
    have K1 := Lib.hid ((Blk.new w 23 #[.int .u8 (f.toNat : Int), .int .u8 (c.toNat : Int), .int .u8 (r.toNat : Int), .int .u8 (e.toNat : Int), .int .u8 (s.toNat : Int)]).below hb1 (by simp))
    have B1 := Lib.hid (box_below hb1)
    clear hb1
    go_wp2_with fail
    go_loopw [7] (fun x wr => ∃ k : Nat, k ≤ t.size + u.size ∧ x = .int .i64 k ∧ (∀ j, j < k → (t ++ u).data.toList.getD j 0 ≠ e) ∧ Blk wr w.heap.size 23 #[.int .u8 (f.toNat : Int), .int .u8 (c.toNat : Int), .int .u8 (r.toNat : Int), .int .u8 (e.toNat : Int), .int .u8 (s.toNat : Int)] ∧ Below w.heap.size w wr) (fun x _ => t.size + u.size - (intOf x).toNat)
    case atStart => exact ⟨0, by omega, rfl, fun j hj => by omega, K1.out, B1.out⟩
    case round =>
      obtain ⟨k, hk, rfl, hno, hblk, hbel⟩ := hrel
      have Hno := Lib.hid hno
      have B3 := Lib.hid hbel
      clear hbel hno
      by_cases hlt : k < t.size + u.size
      · have hcl := fun x => fun i => ext_blk6 hblk x i
        have hi := fun W => idx_val7 (t ++ u) k (by rw [ByteArray.size_append]; exact hlt) rfl W
        have HN := Lib.hid (fun (hb : (t ++ u).data.toList.getD k 0 ≠ e) => show ∀ j, j < k + 1 → (t ++ u).data.toList.getD j 0 ≠ e from fun j hj => by
          rcases Nat.lt_or_ge j k with h1 | h1
          · exact Hno.out j h1
          · have : j = k := by omega
            subst this; exact hb)
        have d2 : decide ((k : Int) < (t.size : Int) + (u.size : Int)) = true := decide_eq_true (by omega)
        generalize (t ++ u).data.toList.getD k 0 = b at *
        by_cases hbe : b = e
        · have tb := eq_cast hbe
          clear hbe
          go_wp2_with fail
          refine wp_region_ext (by kernel_rfl) (by kernel_rfl) ?_
          repeat (first | go_big_quiet_step (fail) | quiet_step (fail))
          refine wpQuiet_nil ?_
          intro w4 hb4
          have B4 := Lib.hid (bt'' B3.out hb4)
          clear hb4 hcl hblk hi
          go_wp2_with fail
          refine (alive7 _).mono ?_
          rintro x w5 ⟨rfl, hb5⟩
          have B5 := Lib.hid (bt'' B4.out hb5)
          clear hb5
          go_wp2
          go_ret
          exact ⟨rfl, B5.out⟩
        · have tb := ne_cast hbe
          have HN2 := Lib.hid (HN.out hbe)
          clear hbe
          go_wp2_with fail
          refine wp_region_ext (by kernel_rfl) (by kernel_rfl) ?_
          repeat (first | go_big_quiet_step (fail) | quiet_step (fail))
          refine wpQuiet_nil ?_
          intro w4 hb4
          have hblk4 := hblk.below hb4 hblk.lt
          have B4 := Lib.hid (bt'' B3.out hb4)
          clear hb4 hcl hblk hi
          go_wp2
          go_roundw
          case rel => exact ⟨k + 1, by omega, by go_num, HN2.out, hblk4, B4.out⟩
          case measure => simp [intOf]; omega
      · have d2 : decide ((k : Int) < (t.size : Int) + (u.size : Int)) = false := decide_eq_false (by omega)
        obtain ⟨n1, n2⟩ := not_in t u e (fun j hj => Hno.out j (by omega))
        have r0 := fun W => read_any f c r e s t W (by omega)
        have r1 := fun W => read_any f c r e s (t ++ ⟨#[e]⟩) W (by rw [ByteArray.size_append]; show t.size + 1 ≤ _; omega)
        rw [if_pos HV.out, P.read_same _ n1, mk_str7] at r0
        rw [if_pos HV.out, show (t ++ ⟨#[e]⟩ : ByteArray).data.toList = t.data.toList ++ [e] from by simp [ByteArray.data_append], P.read_e _ n1, show (⟨(t.data.toList ++ [e]).toArray⟩ : ByteArray) = t ++ ⟨#[e]⟩ from by apply ByteArray.ext; apply Array.ext'; simp [ByteArray.data_append]] at r1
        have r2 : P.means f c r e s u.data.toList = none → ∀ W, Calls Try.prog 22 #[.agg #[.int .u8 (f.toNat : Int), .int .u8 (c.toNat : Int), .int .u8 (r.toNat : Int), .int .u8 (e.toNat : Int), .int .u8 (s.toNat : Int)], .string ((((t ++ ⟨#[e]⟩) ++ u) ++ ⟨#[e]⟩) ++ t)] W fun x w' => x = .returned (.string ((((t ++ ⟨#[e]⟩) ++ u) ++ ⟨#[e]⟩) ++ t)) ∧ Below W.heap.size W w' := fun hm W => by
          have h := read_any f c r e s ((((t ++ ⟨#[e]⟩) ++ u) ++ ⟨#[e]⟩) ++ t) W (by simp only [ByteArray.size_append]; show t.size + 1 + u.size + 1 + t.size ≤ _; omega)
          have hd : ((((t ++ ⟨#[e]⟩) ++ u) ++ ⟨#[e]⟩) ++ t : ByteArray).data.toList = t.data.toList ++ (e :: (u.data.toList ++ e :: t.data.toList)) := by simp [ByteArray.data_append]
          rw [if_pos HV.out, hd, P.read_ee _ _ n1 n2 hm, show (⟨(t.data.toList ++ (e :: (u.data.toList ++ e :: t.data.toList))).toArray⟩ : ByteArray) = (((t ++ ⟨#[e]⟩) ++ u) ++ ⟨#[e]⟩) ++ t from by apply ByteArray.ext; apply Array.ext'; rw [← hd]] at h
          exact h
        have hst : (convert 32 9 (.slice (some ⟨wr.heap.size, 0, none⟩) 1 1)).run Try.prog (wr.alloc (.cells #[.int .u8 (e.toNat : Int)] 5)) = .ok (.string ⟨#[e]⟩) (wr.alloc (.cells #[.int .u8 (e.toNat : Int)] 5)) := bytes_string (c := 1) (n := 1) (Blk.new wr 5 (cellsU8 [e])) (by simp)
        have R0 := Lib.hid r0
        have R1 := Lib.hid r1
        have R2 := Lib.hid r2
        have hblk2 := hblk.alloc (.cells #[.int .u8 (e.toNat : Int)] 5)
        have BK := Lib.hid hblk2
        have BB := Lib.hid (B3.out.alloc B3.out.size (.cells #[.int .u8 (e.toNat : Int)] 5))
        have hc := fun i => hblk.cell i
        have hc2 := fun i => hblk2.cell i
        clear r0 r1 r2 n1 n2 hblk hblk2
        have known : (u.toList == [70]) = true ∨ ((u.toList == [70]) = false ∧ ((u.toList == [83]) = true ∨ ((u.toList == [83]) = false ∧ ((u.toList == [84]) = true ∨ ((u.toList == [84]) = false ∧ ((u.toList == [82]) = true ∨ ((u.toList == [82]) = false ∧ ((u.toList == [69]) = true ∨ ((u.toList == [69]) = false ∧ ((u.size = 0 ∧ P.means f c r e s u.data.toList = none) ∨ (∃ h : 0 < u.size, (u[0]'h = 88 ∨ (u[0]'h ≠ 88 ∧ P.means f c r e s u.data.toList = none))))))))))))) := by
          rw [ByteArray.toList_eq]
          cases h1 : (u.data.toList == [70])
          · refine Or.inr ⟨rfl, ?_⟩
            cases h2 : (u.data.toList == [83])
            · refine Or.inr ⟨rfl, ?_⟩
              cases h3 : (u.data.toList == [84])
              · refine Or.inr ⟨rfl, ?_⟩
                cases h4 : (u.data.toList == [82])
                · refine Or.inr ⟨rfl, ?_⟩
                  cases h5 : (u.data.toList == [69])
                  · refine Or.inr ⟨rfl, ?_⟩
                    have e1 := beq_eq_false_iff_ne.1 h1
                    have e2 := beq_eq_false_iff_ne.1 h2
                    have e3 := beq_eq_false_iff_ne.1 h3
                    have e4 := beq_eq_false_iff_ne.1 h4
                    have e5 := beq_eq_false_iff_ne.1 h5
                    have hmo := fun h6 => P.means_out (f := f) (c := c) (r := r) (e := e) (s := s) e1 e2 e3 e4 e5 h6
                    by_cases h0 : 0 < u.size
                    · refine Or.inr ⟨h0, ?_⟩
                      have hd := P.drop_eq u 0 h0
                      rw [List.drop_zero] at hd
                      by_cases h8 : u[0]'h0 = 88
                      · exact Or.inl h8
                      · exact Or.inr ⟨h8, hmo fun d hd2 => by rw [hd] at hd2; exact h8 (List.cons.inj hd2).1⟩
                    · refine Or.inl ⟨by omega, hmo fun d hd2 => ?_⟩
                      have := congrArg List.length hd2
                      simp at this
                      omega
                  · exact Or.inl rfl
                · exact Or.inl rfl
              · exact Or.inl rfl
            · exact Or.inl rfl
          · exact Or.inl rfl
        have hy1 : ¬ (9223372036854775807 < t.size + 1) := by omega
        have hy2 : ¬ (9223372036854775807 < t.size + 1 + u.size) := by omega
        have hy3 : ¬ (9223372036854775807 < t.size + 1 + u.size + 1) := by omega
        have hy4 : ¬ (9223372036854775807 < t.size + 1 + u.size + 1 + t.size) := by omega
        rcases known with g1 | ⟨g1, g2 | ⟨g2, g3 | ⟨g3, g4 | ⟨g4, g5 | ⟨g5, ⟨g6, hm⟩ | ⟨g6, g7 | ⟨g7, hm⟩⟩⟩⟩⟩⟩⟩
        · clear R2
          go_wp2_with fail
          refine (alive7 _).mono ?_
          rintro x w4 ⟨rfl, hb4⟩
          have K4 := Lib.hid (BK.out.below hb4 BK.out.lt)
          have B4 := Lib.hid (bt'' BB.out hb4)
          have c4 := fun i => K4.out.cell i
          clear hb4
          go_wp2_with fail
          refine (R0.out _).mono ?_
          rintro x w5 ⟨rfl, hb5⟩
          have K5 := Lib.hid (K4.out.below hb5 K4.out.lt)
          have B5 := Lib.hid (bt'' B4.out hb5)
          have c5 := fun i => K5.out.cell i
          clear hb5 c4
          go_wp2_with fail
          refine (R1.out _).mono ?_
          rintro x w6 ⟨rfl, hb6⟩
          have K6 := Lib.hid (K5.out.below hb6 K5.out.lt)
          have B6 := Lib.hid (bt'' B5.out hb6)
          have c6 := fun i => K6.out.cell i
          clear hb6 c5
          go_wp2
          go_ret
          exact ⟨rfl, B6.out⟩
        · clear R2
          go_wp2_with fail
          refine (alive7 _).mono ?_
          rintro x w4 ⟨rfl, hb4⟩
          have K4 := Lib.hid (BK.out.below hb4 BK.out.lt)
          have B4 := Lib.hid (bt'' BB.out hb4)
          have c4 := fun i => K4.out.cell i
          clear hb4
          go_wp2_with fail
          refine (R0.out _).mono ?_
          rintro x w5 ⟨rfl, hb5⟩
          have K5 := Lib.hid (K4.out.below hb5 K4.out.lt)
          have B5 := Lib.hid (bt'' B4.out hb5)
          have c5 := fun i => K5.out.cell i
          clear hb5 c4
          go_wp2_with fail
          refine (R1.out _).mono ?_
          rintro x w6 ⟨rfl, hb6⟩
          have K6 := Lib.hid (K5.out.below hb6 K5.out.lt)
          have B6 := Lib.hid (bt'' B5.out hb6)
          have c6 := fun i => K6.out.cell i
          clear hb6 c5
          go_wp2
          go_ret
          exact ⟨rfl, B6.out⟩
        · clear R2
          go_wp2_with fail
          refine (alive7 _).mono ?_
          rintro x w4 ⟨rfl, hb4⟩
          have K4 := Lib.hid (BK.out.below hb4 BK.out.lt)
          have B4 := Lib.hid (bt'' BB.out hb4)
          have c4 := fun i => K4.out.cell i
          clear hb4
          go_wp2_with fail
          refine (R0.out _).mono ?_
          rintro x w5 ⟨rfl, hb5⟩
          have K5 := Lib.hid (K4.out.below hb5 K4.out.lt)
          have B5 := Lib.hid (bt'' B4.out hb5)
          have c5 := fun i => K5.out.cell i
          clear hb5 c4
          go_wp2_with fail
          refine (R1.out _).mono ?_
          rintro x w6 ⟨rfl, hb6⟩
          have K6 := Lib.hid (K5.out.below hb6 K5.out.lt)
          have B6 := Lib.hid (bt'' B5.out hb6)
          have c6 := fun i => K6.out.cell i
          clear hb6 c5
          go_wp2
          go_ret
          exact ⟨rfl, B6.out⟩
        · clear R2
          go_wp2_with fail
          refine (alive7 _).mono ?_
          rintro x w4 ⟨rfl, hb4⟩
          have K4 := Lib.hid (BK.out.below hb4 BK.out.lt)
          have B4 := Lib.hid (bt'' BB.out hb4)
          have c4 := fun i => K4.out.cell i
          clear hb4
          go_wp2_with fail
          refine (R0.out _).mono ?_
          rintro x w5 ⟨rfl, hb5⟩
          have K5 := Lib.hid (K4.out.below hb5 K4.out.lt)
          have B5 := Lib.hid (bt'' B4.out hb5)
          have c5 := fun i => K5.out.cell i
          clear hb5 c4
          go_wp2_with fail
          refine (R1.out _).mono ?_
          rintro x w6 ⟨rfl, hb6⟩
          have K6 := Lib.hid (K5.out.below hb6 K5.out.lt)
          have B6 := Lib.hid (bt'' B5.out hb6)
          have c6 := fun i => K6.out.cell i
          clear hb6 c5
          go_wp2
          go_ret
          exact ⟨rfl, B6.out⟩
        · clear R2
          go_wp2_with fail
          refine (alive7 _).mono ?_
          rintro x w4 ⟨rfl, hb4⟩
          have K4 := Lib.hid (BK.out.below hb4 BK.out.lt)
          have B4 := Lib.hid (bt'' BB.out hb4)
          have c4 := fun i => K4.out.cell i
          clear hb4
          go_wp2_with fail
          refine (R0.out _).mono ?_
          rintro x w5 ⟨rfl, hb5⟩
          have K5 := Lib.hid (K4.out.below hb5 K4.out.lt)
          have B5 := Lib.hid (bt'' B4.out hb5)
          have c5 := fun i => K5.out.cell i
          clear hb5 c4
          go_wp2_with fail
          refine (R1.out _).mono ?_
          rintro x w6 ⟨rfl, hb6⟩
          have K6 := Lib.hid (K5.out.below hb6 K5.out.lt)
          have B6 := Lib.hid (bt'' B5.out hb6)
          have c6 := fun i => K6.out.cell i
          clear hb6 c5
          go_wp2
          go_ret
          exact ⟨rfl, B6.out⟩
        · have HM := Lib.hid (R2.out hm)
          have g7 : decide (0 < u.size) = false := decide_eq_false (by omega)
          clear R2 hm g6
          go_wp2_with fail
          refine (alive7 _).mono ?_
          rintro x w4 ⟨rfl, hb4⟩
          have K4 := Lib.hid (BK.out.below hb4 BK.out.lt)
          have B4 := Lib.hid (bt'' BB.out hb4)
          have c4 := fun i => K4.out.cell i
          clear hb4
          go_wp2_with fail
          refine (R0.out _).mono ?_
          rintro x w5 ⟨rfl, hb5⟩
          have K5 := Lib.hid (K4.out.below hb5 K4.out.lt)
          have B5 := Lib.hid (bt'' B4.out hb5)
          have c5 := fun i => K5.out.cell i
          clear hb5 c4
          go_wp2_with fail
          refine (R1.out _).mono ?_
          rintro x w6 ⟨rfl, hb6⟩
          have K6 := Lib.hid (K5.out.below hb6 K5.out.lt)
          have B6 := Lib.hid (bt'' B5.out hb6)
          have c6 := fun i => K6.out.cell i
          clear hb6 c5
          go_wp2_with fail
          refine (HM.out _).mono ?_
          rintro x w7 ⟨rfl, hb7⟩
          have B7 := Lib.hid (bt'' B6.out hb7)
          clear hb7 c6
          go_wp2
          go_ret
          exact ⟨rfl, B7.out⟩
        · have hi0 := fun W => idx_atu u 0 g6 rfl W
          have g8 : ((u[0].toNat : Int) == 88) = true := by rw [g7]; rfl
          clear R2 g7
          go_wp2_with fail
          refine (alive7 _).mono ?_
          rintro x w4 ⟨rfl, hb4⟩
          have K4 := Lib.hid (BK.out.below hb4 BK.out.lt)
          have B4 := Lib.hid (bt'' BB.out hb4)
          have c4 := fun i => K4.out.cell i
          clear hb4
          go_wp2_with fail
          refine (R0.out _).mono ?_
          rintro x w5 ⟨rfl, hb5⟩
          have K5 := Lib.hid (K4.out.below hb5 K4.out.lt)
          have B5 := Lib.hid (bt'' B4.out hb5)
          have c5 := fun i => K5.out.cell i
          clear hb5 c4
          go_wp2_with fail
          refine (R1.out _).mono ?_
          rintro x w6 ⟨rfl, hb6⟩
          have K6 := Lib.hid (K5.out.below hb6 K5.out.lt)
          have B6 := Lib.hid (bt'' B5.out hb6)
          have c6 := fun i => K6.out.cell i
          clear hb6 c5
          go_wp2
          go_ret
          exact ⟨rfl, B6.out⟩
        · have hi0 := fun W => idx_atu u 0 g6 rfl W
          have g8 : ((u[0].toNat : Int) == 88) = false := by rw [beq_eq_false_iff_ne]; intro h; exact g7 (UInt8.toNat_inj.1 (show _ = 88 from by omega))
          have HM := Lib.hid (R2.out hm)
          clear R2 g7 hm
          go_wp2_with fail
          refine (alive7 _).mono ?_
          rintro x w4 ⟨rfl, hb4⟩
          have K4 := Lib.hid (BK.out.below hb4 BK.out.lt)
          have B4 := Lib.hid (bt'' BB.out hb4)
          have c4 := fun i => K4.out.cell i
          clear hb4
          go_wp2_with fail
          refine (R0.out _).mono ?_
          rintro x w5 ⟨rfl, hb5⟩
          have K5 := Lib.hid (K4.out.below hb5 K4.out.lt)
          have B5 := Lib.hid (bt'' B4.out hb5)
          have c5 := fun i => K5.out.cell i
          clear hb5 c4
          go_wp2_with fail
          refine (R1.out _).mono ?_
          rintro x w6 ⟨rfl, hb6⟩
          have K6 := Lib.hid (K5.out.below hb6 K5.out.lt)
          have B6 := Lib.hid (bt'' B5.out hb6)
          have c6 := fun i => K6.out.cell i
          clear hb6 c5
          go_wp2_with fail
          refine (HM.out _).mono ?_
          rintro x w7 ⟨rfl, hb7⟩
          have B7 := Lib.hid (bt'' B6.out hb7)
          clear hb7 c6
          go_wp2
          go_ret
          exact ⟨rfl, B7.out⟩
end Go.Proofs.Ytefebcibcmjbaab
