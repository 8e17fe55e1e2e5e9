/- EscapePlain: the walk: a value without signs, all of whose bytes are printed, stands as it is; two values one behind the other are read as both. -/
import Derived.Test.YtefebcibcmjbaabEscLong
namespace Go.Proofs.Ytefebcibcmjbaab
set_option linter.unusedVariables false
open Go.RowKit Go.BigFrame
namespace P
/-- A byte that stands as it is. -/
def stands (f c r e s b : UInt8) : Bool := decide (32 ≤ b.toNat) && (decide (b.toNat ≤ 126) && !isSign [f, c, r, e, s] b)
theorem esc_stands {f c r e s : UInt8} : ∀ l : List UInt8, l.all (stands f c r e s) = true → esc f c r e s l = l
  | [], _ => rfl
  | b :: l, h => by
    simp [stands] at h
    have e1 : esc f c r e s (b :: l) = escB f c r e s b ++ esc f c r e s l := rfl
    rw [e1, escB_one h.1.2.2 (by omega), esc_stands l (by simpa [stands] using h.2)]
    rfl
theorem escB_long {f c r e s b : UInt8} : 1 ≤ (escB f c r e s b).length := by
  unfold escB
  split
  · simp
  · split <;> simp
theorem esc_ge {f c r e s : UInt8} : ∀ l : List UInt8, l.length ≤ (esc f c r e s l).length
  | [] => by simp [esc]
  | b :: l => by
    have h := esc_ge (f := f) (c := c) (r := r) (e := e) (s := s) l
    have h1 := escB_long (f := f) (c := c) (r := r) (e := e) (s := s) (b := b)
    have e1 : esc f c r e s (b :: l) = escB f c r e s b ++ esc f c r e s l := rfl
    rw [e1]; simp; omega
theorem esc_longer {f c r e s : UInt8} : ∀ l : List UInt8, l.all (stands f c r e s) = false → l.length < (esc f c r e s l).length
  | [], h => by simp at h
  | b :: l, h => by
    have e1 : esc f c r e s (b :: l) = escB f c r e s b ++ esc f c r e s l := rfl
    rw [e1]
    have hg := esc_ge (f := f) (c := c) (r := r) (e := e) (s := s) l
    have h1 := escB_long (f := f) (c := c) (r := r) (e := e) (s := s) (b := b)
    rw [List.all_cons] at h
    simp only [List.length_append, List.length_cons]
    cases hb : stands f c r e s b
    · have h2 : 3 ≤ (escB f c r e s b).length := by
        cases hs : isSign [f, c, r, e, s] b
        · rw [escB_five hs (by
            simp [stands, hs] at hb
            omega)]
          omega
        · rw [escB_three hs]; omega
      omega
    · rw [hb, Bool.true_and] at h
      have := esc_longer l h
      omega
end P
set_option maxRecDepth 100000 in
set_option maxHeartbeats 4000000 in
theorem escapePlain_any (f c r e s : UInt8) (t u : ByteArray) (w : World) (ht : t.size ≤ 140737488351232) (hu : u.size ≤ 140737488351232) :
    Calls Try.prog 8 #[.agg #[.int .u8 (f.toNat : Int), .int .u8 (c.toNat : Int), .int .u8 (r.toNat : Int), .int .u8 (e.toNat : Int), .int .u8 (s.toNat : Int)], .string t, .string u] w fun x w' => x = .returned (.bool true) ∧ Below w.heap.size w w' := by
  by_cases hz : 9000 < t.size + u.size
  · have d1 : decide ((9000 : Int) < (t.size : Int) + (u.size : Int)) = true := decide_eq_true (by omega)
    go_enter Try.func8, Try.ntmps8
    go_wp2_with fail
    refine (alive7 _).mono ?_
    rintro x w1 ⟨rfl, hb1⟩
    have B1 := Lib.hid (box_below hb1)
    clear hb1
    go_wp2
    go_ret
    exact ⟨rfl, B1.out⟩
  have d1 : decide ((9000 : Int) < (t.size : Int) + (u.size : Int)) = false := decide_eq_false (by omega)
  have vc := fun W => valid_any f c r e s W
  cases hv : P.valid [f, c, r, e, s]
  · rw [hv] at vc
    have VC := Lib.hid vc
    clear vc hv
    go_enter Try.func8, Try.ntmps8
    go_wp2_with fail
    refine (VC.out _).mono ?_
    rintro x w1 ⟨rfl, hb1⟩
    have B1 := Lib.hid (box_below hb1)
    clear hb1
    go_wp2_with fail
    refine (alive7 _).mono ?_
    rintro x w2 ⟨rfl, hb2⟩
    have B2 := Lib.hid (bt'' B1.out hb2)
    clear hb2
    go_wp2
    go_ret
    exact ⟨rfl, B2.out⟩
  · have hS := P.sound_of hv
    have e1 : ∀ l, P.escS f c r e s l = P.esc f c r e s l := fun l => by simp [P.escS, hv]
    have ha := esc_le f c r e s t.data.toList
    have hb := esc_le f c r e s u.data.toList
    have wa := fun W => write_any f c r e s t W (by omega)
    have wb := fun W => write_any f c r e s u W (by omega)
    have wab := fun W => write_any f c r e s (t ++ u) W (by simp [ByteArray.size_append]; omega)
    rw [e1] at wa wb wab
    have hab : (⟨(P.esc f c r e s (t ++ u).data.toList).toArray⟩ : ByteArray) = ⟨(P.esc f c r e s t.data.toList).toArray⟩ ++ ⟨(P.esc f c r e s u.data.toList).toArray⟩ := by
      apply ByteArray.ext
      simp [ByteArray.data_append, P.esc_append]
    rw [hab] at wab
    have rab := fun W => read_any f c r e s (⟨(P.esc f c r e s t.data.toList).toArray⟩ ++ ⟨(P.esc f c r e s u.data.toList).toArray⟩) W (by rw [ByteArray.size_append]; show (P.esc f c r e s t.data.toList).length + (P.esc f c r e s u.data.toList).length ≤ _; simp at ha hb; omega)
    rw [if_pos hv] at rab
    have hr : (⟨(P.read f c r e s ((⟨(P.esc f c r e s t.data.toList).toArray⟩ : ByteArray) ++ ⟨(P.esc f c r e s u.data.toList).toArray⟩).data.toList).toArray⟩ : ByteArray) = t ++ u := by
      have h1 : ((⟨(P.esc f c r e s t.data.toList).toArray⟩ : ByteArray) ++ ⟨(P.esc f c r e s u.data.toList).toArray⟩).data.toList = P.esc f c r e s t.data.toList ++ P.esc f c r e s u.data.toList := by simp [ByteArray.data_append]
      rw [h1, P.read_esc_append hS, P.read_esc hS]
      apply ByteArray.ext
      simp [ByteArray.data_append]
    rw [hr] at rab
    have HP := Lib.hid (P.esc_stands (f := f) (c := c) (r := r) (e := e) (s := s) t.data.toList)
    have HL := Lib.hid (P.esc_longer (f := f) (c := c) (r := r) (e := e) (s := s) t.data.toList)
    have ls1 : (P.esc f c r e s t.data.toList).length + (P.esc f c r e s u.data.toList).length ≤ 45000 := by simp at ha hb; omega
    clear hr hab ha hb hS e1
    generalize P.esc f c r e s t.data.toList = ea at *
    generalize P.esc f c r e s u.data.toList = eb at *
    rw [hv] at vc
    have VC := Lib.hid vc
    have WA := Lib.hid wa
    have WB := Lib.hid wb
    have WAB := Lib.hid wab
    have RAB := Lib.hid rab
    clear vc wa wb wab rab hv
    go_enter Try.func8, Try.ntmps8
    go_wp2_with fail
    refine (VC.out _).mono ?_
    rintro x w1 ⟨rfl, hb1⟩
    have K1 := Lib.hid ((Blk.new w 23 #[.int .u8 (f.toNat : Int), .int .u8 (c.toNat : Int), .int .u8 (r.toNat : Int), .int .u8 (e.toNat : Int), .int .u8 (s.toNat : Int)]).below hb1 (by simp))
    have B1 := Lib.hid (box_below hb1)
    clear hb1
    go_wp2_with fail
    go_loopw [7, 8] (fun n x wr => ∃ k : Nat, k ≤ t.size ∧ x = .int .i64 k ∧ n = .bool ((t.data.toList.take k).all (P.stands f c r e s)) ∧ Blk wr w.heap.size 23 #[.int .u8 (f.toNat : Int), .int .u8 (c.toNat : Int), .int .u8 (r.toNat : Int), .int .u8 (e.toNat : Int), .int .u8 (s.toNat : Int)] ∧ Below w.heap.size w wr) (fun _ x _ => t.size - (intOf x).toNat)
    case atStart => exact ⟨0, by omega, rfl, rfl, K1.out, B1.out⟩
    case round =>
      obtain ⟨k, hk, rfl, rfl, hblk, hbel⟩ := hrel
      have hcl := fun x => fun i => ext_blk6 hblk x i
      have B3 := Lib.hid hbel
      clear hbel
      by_cases hlt : k < t.size
      · have hi := fun W => idx_atu t k hlt rfl W
        have HS := Lib.hid (show (t.data.toList.take (k + 1)).all (P.stands f c r e s) = ((t.data.toList.take k).all (P.stands f c r e s) && P.stands f c r e s t[k]) from by rw [take_snoc t k hlt]; simp)
        have ic := fun W => is_any f c r e s t[k] W
        generalize (t.data.toList.take k).all (P.stands f c r e s) = acc at *
        have key : ∃ m, P.stands f c r e s t[k] = m ∧ ((acc = false) ∨ (acc = true ∧ decide (32 ≤ (t[k].toNat : Int)) = false ∧ m = false) ∨ (acc = true ∧ decide (32 ≤ (t[k].toNat : Int)) = true ∧ decide ((t[k].toNat : Int) ≤ 126) = false ∧ m = false) ∨ (acc = true ∧ decide (32 ≤ (t[k].toNat : Int)) = true ∧ decide ((t[k].toNat : Int) ≤ 126) = true ∧ m = !P.isSign [f, c, r, e, s] t[k])) := by
          refine ⟨_, rfl, ?_⟩
          cases acc
          · exact Or.inl rfl
          · rcases Nat.lt_or_ge t[k].toNat 32 with h | h
            · exact Or.inr (Or.inl ⟨rfl, decide_eq_false (by omega), by unfold P.stands; rw [decide_eq_false (by omega)]; rfl⟩)
            · rcases Nat.lt_or_ge 126 t[k].toNat with h' | h'
              · exact Or.inr (Or.inr (Or.inl ⟨rfl, decide_eq_true (by omega), decide_eq_false (by omega), by unfold P.stands; rw [decide_eq_true (by omega), decide_eq_false (by omega)]; rfl⟩))
              · exact Or.inr (Or.inr (Or.inr ⟨rfl, decide_eq_true (by omega), decide_eq_true (by omega), by unfold P.stands; rw [decide_eq_true (by omega), decide_eq_true (by omega)]; rfl⟩))
        obtain ⟨m, hm, key⟩ := key
        rw [hm] at HS
        clear hm
        generalize P.isSign [f, c, r, e, s] t[k] = sg at *
        have IC := Lib.hid ic
        clear ic
        rcases key with rfl | ⟨rfl, h2, rfl⟩ | ⟨rfl, h2, h3, rfl⟩ | ⟨rfl, h2, h3, rfl⟩
        all_goals
          go_wp2_with fail
          refine wp_region_ext (by kernel_rfl) (by kernel_rfl) ?_
          repeat (first | go_big_quiet_step ((go_at_call 17; exact Ext.calls _ (IC.out _))) | quiet_step ((go_at_call 17; exact Ext.calls _ (IC.out _))))
          refine wpQuiet_nil ?_
          intro w4 hb4
          have hblk4 := hblk.below hb4 hblk.lt
          have B4 := Lib.hid (bt'' B3.out hb4)
          clear hb4 hcl hblk
          go_wp2
          go_roundw
          case rel => exact ⟨k + 1, by omega, by go_num, by rw [HS.out]; rfl, hblk4, B4.out⟩
          case measure => simp [intOf]; omega
      · have hkn : k = t.size := by omega
        have HT := Lib.hid (show t.data.toList.take k = t.data.toList from by rw [hkn, List.take_of_length_le (by simp)])
        rw [HT.out]
        have key : ∃ q, t.data.toList.all (P.stands f c r e s) = q ∧ ((q = true ∧ (⟨ea.toArray⟩ : ByteArray) = t) ∨ (q = false ∧ ((⟨ea.toArray⟩ : ByteArray).toList == t.toList) = false)) := by
          refine ⟨_, rfl, ?_⟩
          cases hq : t.data.toList.all (P.stands f c r e s)
          · have := HL.out hq
            refine Or.inr ⟨rfl, ?_⟩
            rw [beq_eq_false_iff_ne, ByteArray.toList_eq, ByteArray.toList_eq]
            intro h
            have h2 : ea = t.data.toList := h
            rw [h2] at this
            omega
          · have := HP.out hq
            exact Or.inl ⟨rfl, by rw [this]⟩
        obtain ⟨q, hq, key⟩ := key
        rw [hq]
        clear hq hkn HT HP HL
        rcases key with ⟨rfl, h1⟩ | ⟨rfl, h1⟩
        · have HE := Lib.hid h1
          have wa2 := WA.out
          rw [h1] at wa2
          have WA2 := Lib.hid wa2
          have rab2 := RAB.out
          rw [h1] at rab2
          have RAB2 := Lib.hid rab2
          have wab2 := WAB.out
          rw [h1] at wab2
          have WAB2 := Lib.hid wab2
          have hz7 : ¬ (9223372036854775807 < t.size + eb.length) := by have : ea.length = t.size := by rw [← h1]; rfl
                                                                        omega
          clear h1 wa2 rab2 wab2
          have hz9 : ¬ (9223372036854775807 < t.size + u.size) := by omega
          have hz8 : ¬ (9223372036854775807 < ea.length + eb.length) := by omega
          go_wp2_with fail
          refine wp_region_ext (by kernel_rfl) (by kernel_rfl) ?_
          repeat (first | go_big_quiet_step ((first | (go_at_call 19; exact Ext.calls _ (alive7 _)) | (go_at_call 20; with_reducible exact Ext.calls _ (WA2.out _)) | (go_at_call 20; with_reducible exact Ext.calls _ (WB.out _)) | (go_at_call 20; with_reducible exact Ext.calls _ (WAB2.out _)) | (go_at_call 22; with_reducible exact Ext.calls _ (RAB2.out _)))) | quiet_step ((first | (go_at_call 19; exact Ext.calls _ (alive7 _)) | (go_at_call 20; with_reducible exact Ext.calls _ (WA2.out _)) | (go_at_call 20; with_reducible exact Ext.calls _ (WB.out _)) | (go_at_call 20; with_reducible exact Ext.calls _ (WAB2.out _)) | (go_at_call 22; with_reducible exact Ext.calls _ (RAB2.out _)))))
          refine wpQuiet_nil ?_
          intro w4 hb4
          have B4 := Lib.hid (bt'' B3.out hb4)
          clear hb4
          go_wp2
          go_ret
          exact ⟨rfl, B4.out⟩
        · have h2 : (ea == t.toList) = false := by rw [ByteArray.toList_eq] at h1; exact h1
          have h3 : (ea == t.data.toList) = false := by rw [ByteArray.toList_eq] at h2; exact h2
          have hz9 : ¬ (9223372036854775807 < t.size + u.size) := by omega
          have hz8 : ¬ (9223372036854775807 < ea.length + eb.length) := by omega
          go_wp2_with fail
          refine wp_region_ext (by kernel_rfl) (by kernel_rfl) ?_
          repeat (first | go_big_quiet_step ((first | (go_at_call 19; exact Ext.calls _ (alive7 _)) | (go_at_call 20; with_reducible exact Ext.calls _ (WA.out _)) | (go_at_call 20; with_reducible exact Ext.calls _ (WB.out _)) | (go_at_call 20; with_reducible exact Ext.calls _ (WAB.out _)) | (go_at_call 22; with_reducible exact Ext.calls _ (RAB.out _)))) | quiet_step ((first | (go_at_call 19; exact Ext.calls _ (alive7 _)) | (go_at_call 20; with_reducible exact Ext.calls _ (WA.out _)) | (go_at_call 20; with_reducible exact Ext.calls _ (WB.out _)) | (go_at_call 20; with_reducible exact Ext.calls _ (WAB.out _)) | (go_at_call 22; with_reducible exact Ext.calls _ (RAB.out _)))))
          refine wpQuiet_nil ?_
          intro w4 hb4
          have B4 := Lib.hid (bt'' B3.out hb4)
          clear hb4
          go_wp2
          go_ret
          exact ⟨rfl, B4.out⟩
end Go.Proofs.Ytefebcibcmjbaab
