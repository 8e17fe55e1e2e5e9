/- Part G1 of the proof: the statement that is proved stands in the text that ends with its name. No conditions beyond the card's. -/
import Derived.Test.YtmabpnmnppfgaaaGreatDoorF2
import Derived.Test.YtmabpnmnppfgaaaGreatDoorH1
namespace Go.Proofs.YtmabpnmnppfgaaaGreatDoor
set_option linter.unusedVariables false
open Go Go.RowKit Go.BigFrame
set_option maxRecDepth 100000 in
theorem refPath_res {W : World} {tmps : Array Value} {g : Nat} {er : Value} {s : ByteArray} {a b c d e : Int} (hW : Blk W g 69 #[.string s, .int .i64 a, .int .i64 b, .int .i64 c, .int .i64 d, .int .i64 e]) (h2 : tmps.getD 2 undef = .pointer (some ⟨g, 0, none⟩)) (h3 : tmps.getD 3 undef = er) :
    (results Tryz.f211 tmps).run Tryz.prog W = .ok (.tuple #[.agg #[.string s, .int .i64 a, .int .i64 b, .int .i64 c, .int .i64 d, .int .i64 e], er]) W := by
  rw [results_cell_tmp rfl, h2, h3]
  have c0 := hW.cell
  simp [go_sem, c0]
theorem StepOut.split {x : Ad.Bs × Bool} {v : Ending} (h : StepOut x v) : (x.2 = true ∧ ∃ n : Int, v = .returned (.tuple #[.int .i64 n, .string ⟨#[]⟩, .bool false])) ∨ (x.2 = false ∧ ∃ (n : Int) (t : ByteArray), t.data.toList = x.1 ∧ v = .returned (.tuple #[.int .i64 n, .string t, .bool true])) := by
  obtain ⟨n, ⟨h, e⟩ | ⟨h, e⟩⟩ := h
  · exact .inl ⟨h, n, e⟩
  · exact .inr ⟨h, n, _, rfl, e⟩
abbrev zp : Array Value := #[.string ⟨#[]⟩, .int .i64 0, .int .i64 0, .int .i64 0, .int .i64 0, .int .i64 0]
structure QSt (w wx : World) (g0 g1 : Nat) (sg : ByteArray) (a b c d e : Int) : Prop where
  res : Blk wx g0 69 zp
  path : Blk wx g1 69 #[.string sg, .int .i64 a, .int .i64 b, .int .i64 c, .int .i64 d, .int .i64 e]
  bel : Below w.heap.size w wx
  ge0 : w.heap.size ≤ g0
  ge1 : w.heap.size ≤ g1
  ne : g0 ≠ g1
section
variable {w wx : World} {g0 g1 : Nat} {sg : ByteArray} {a b c d e : Int}
theorem QSt.put1 (h : QSt w wx g0 g1 sg a b c d e) (v : Int) : QSt w (wx.setCell ⟨g1, 1, none⟩ (.int .i64 v)) g0 g1 sg v b c d e := ⟨h.res.far (by simpa using h.ne) _, h.path.set_ 1 (.int .i64 v), h.bel.setCell h.ge1 _, h.ge0, h.ge1, h.ne⟩
theorem QSt.put2 (h : QSt w wx g0 g1 sg a b c d e) (v : Int) : QSt w (wx.setCell ⟨g1, 2, none⟩ (.int .i64 v)) g0 g1 sg a v c d e := ⟨h.res.far (by simpa using h.ne) _, h.path.set_ 2 (.int .i64 v), h.bel.setCell h.ge1 _, h.ge0, h.ge1, h.ne⟩
theorem QSt.put3 (h : QSt w wx g0 g1 sg a b c d e) (v : Int) : QSt w (wx.setCell ⟨g1, 3, none⟩ (.int .i64 v)) g0 g1 sg a b v d e := ⟨h.res.far (by simpa using h.ne) _, h.path.set_ 3 (.int .i64 v), h.bel.setCell h.ge1 _, h.ge0, h.ge1, h.ne⟩
theorem QSt.put4 (h : QSt w wx g0 g1 sg a b c d e) (v : Int) : QSt w (wx.setCell ⟨g1, 4, none⟩ (.int .i64 v)) g0 g1 sg a b c v e := ⟨h.res.far (by simpa using h.ne) _, h.path.set_ 4 (.int .i64 v), h.bel.setCell h.ge1 _, h.ge0, h.ge1, h.ne⟩
theorem QSt.put5 (h : QSt w wx g0 g1 sg a b c d e) (v : Int) : QSt w (wx.setCell ⟨g1, 5, none⟩ (.int .i64 v)) g0 g1 sg a b c d v := ⟨h.res.far (by simpa using h.ne) _, h.path.set_ 5 (.int .i64 v), h.bel.setCell h.ge1 _, h.ge0, h.ge1, h.ne⟩
theorem QSt.below {wy : World} (h : QSt w wx g0 g1 sg a b c d e) (hb : Below wx.heap.size wx wy) : QSt w wy g0 g1 sg a b c d e := ⟨h.res.below hb h.res.lt, h.path.below hb h.path.lt, h.bel.trans (hb.mono h.bel.size), h.ge0, h.ge1, h.ne⟩
theorem QSt.done (h : QSt w wx g0 g1 sg a b c d e) (s : ByteArray) (i j k l m : Int) :
    Blk ((((((wx.setCell ⟨g0, 0, none⟩ (.string s)).setCell ⟨g0, 1, none⟩ (.int .i64 i)).setCell ⟨g0, 2, none⟩ (.int .i64 j)).setCell ⟨g0, 3, none⟩ (.int .i64 k)).setCell ⟨g0, 4, none⟩ (.int .i64 l)).setCell ⟨g0, 5, none⟩ (.int .i64 m)) g0 69 #[.string s, .int .i64 i, .int .i64 j, .int .i64 k, .int .i64 l, .int .i64 m] ∧
    Below w.heap.size w ((((((wx.setCell ⟨g0, 0, none⟩ (.string s)).setCell ⟨g0, 1, none⟩ (.int .i64 i)).setCell ⟨g0, 2, none⟩ (.int .i64 j)).setCell ⟨g0, 3, none⟩ (.int .i64 k)).setCell ⟨g0, 4, none⟩ (.int .i64 l)).setCell ⟨g0, 5, none⟩ (.int .i64 m)) := by
  constructor
  · have hx := (((((h.res.set_ 0 (.string s)).set_ 1 (.int .i64 i)).set_ 2 (.int .i64 j)).set_ 3 (.int .i64 k)).set_ 4 (.int .i64 l)).set_ 5 (.int .i64 m)
    simp only [List.setIfInBounds_toArray, List.set_cons_zero, List.set_cons_succ] at hx
    exact hx
  · exact (((((h.bel.setCell h.ge0 _).setCell h.ge0 _).setCell h.ge0 _).setCell h.ge0 _).setCell h.ge0 _).setCell h.ge0 _
end
theorem wrote6z (w : World) : Blk (w.alloc (.cells zp 69)) w.heap.size 69 zp ∧ Below w.heap.size w (w.alloc (.cells zp 69)) := ⟨Blk.new w _ _, (Below.refl _ w).alloc (Nat.le_refl _) _⟩
namespace Ad
theorem numS_bad {o e : Bs} {x : Bs × Bool} (h : x.2 = true) : (numS o e x).2 = true := by
  unfold numS numR
  split
  · rw [h]; rfl
  · exact h
theorem numS_good {o e : Bs} {x : Bs × Bool} (h : x.2 = false) : numS o e x = numR o e x.1 false := by
  unfold numS
  rw [h]
theorem pathU_eq (x : Bs × Bool) : pathU x = numS [46] [] (numS [46] [] x) := by
  unfold pathU
  split
  · rfl
  · rename_i h
    have e : numS [46] [] x = x := by
      unfold numS numR
      rw [if_neg h]
    rw [e, e]
theorem pathT_bad {x : Bs × Bool} (h : x.2 = true) : (pathT x).2 = true := by
  unfold pathT
  split
  · rw [pathU_eq]
    exact numS_bad (numS_bad (numS_bad (numS_bad h)))
  · exact h
theorem pathOk3 {l : Bs} (h : 3 ≤ l.length) : pathOk l = (!(pathT (numR [91] [93] (l.drop 3) false)).2 && (pathT (numR [91] [93] (l.drop 3) false)).1.isEmpty && isSeg (l.take 3)) := by
  unfold pathOk pathX numS
  rw [show min 3 l.length = 3 by omega]
end Ad
set_option maxRecDepth 100000 in
set_option maxHeartbeats 8000000 in
theorem refPath_any (s : ByteArray) (w : World) (hs : s.size ≤ 1000000) :
    Calls Tryz.prog 211 #[.string s] w fun e w' => PathOut (Ad.pathOk s.data.toList) e ∧ Below w.heap.size w w' := by
  have HP0 := Lib.hid (show QSt w ((w.alloc (.cells zp 69)).alloc (.cells #[.string (s.extract 0 3), .int .i64 0, .int .i64 0, .int .i64 0, .int .i64 0, .int .i64 0] 69)) w.heap.size (w.heap.size + 1) (s.extract 0 3) 0 0 0 0 0 from
    ⟨(Blk.new w _ _).alloc _, by simpa using Blk.new (w.alloc (.cells zp 69)) 69 #[.string (s.extract 0 3), .int .i64 0, .int .i64 0, .int .i64 0, .int .i64 0, .int .i64 0], ((Below.refl _ w).alloc (Nat.le_refl _) _).alloc (by simp) _, Nat.le_refl _, by omega, by omega⟩)
  have HZ := Lib.hid (wrote6z w)
  by_cases h3 : s.size < 3
  · have HOK := Lib.hid (show Ad.pathOk s.data.toList = false from by
      unfold Ad.pathOk Ad.isSeg
      rw [show decide ((s.data.toList.take (min 3 s.data.toList.length)).length = 3) = false by rw [decide_eq_false_iff_not, List.length_take, len_size]; omega]
      simp)
    clear HP0
    go_enter Tryz.func211, Tryz.ntmps211
    go_wp2_with fail
    refine bodyPost_ret (refPath_res HZ.out.1 rfl rfl) rfl ⟨?_, HZ.out.2⟩
    rw [HOK.out]
    exact path_out _ _ _ _ _ _ 60 rfl (by simp)
  · have KS := Lib.hid (refSeg_any (s.extract 0 3))
    have HSeg := Lib.hid (show (s.extract 0 3).data.toList = s.data.toList.take 3 from ext_to s 3)
    have HPK := Lib.hid (Ad.pathOk3 (l := s.data.toList) (by rw [len_size]; omega))
    have K1 := Lib.hid (fun W => refStep_any (s.extract 3 s.size) 91 [93] (.inl ⟨rfl, rfl⟩) W (by rw [ByteArray.size_extract]; omega))
    have HRest := Lib.hid (show (s.extract 3 s.size).data.toList = s.data.toList.drop 3 from ext_end s 3)
    rw [HRest.out] at K1
    obtain ⟨sg, hsg⟩ : ∃ sg, Ad.isSeg (s.data.toList.take 3) = sg := ⟨_, rfl⟩
    rw [hsg] at HPK
    rw [HSeg.out, hsg] at KS
    have HLen := Lib.hid (show (s.data.toList.drop 3).length ≤ 1000000 by rw [List.length_drop, len_size]; omega)
    generalize s.data.toList.drop 3 = L1 at *
    generalize Ad.pathOk s.data.toList = res at *
    clear hsg HSeg HRest
    cases sg with
    | false =>
      have HOK := Lib.hid (show res = false from by rw [HPK.out]; simp)
      clear HPK HP0
      go_enter Tryz.func211, Tryz.ntmps211
      go_wp2_with (go_at_call 270; refine (KS.out _).mono ?_; rintro e w' ⟨rfl, rfl⟩)
      refine bodyPost_ret (refPath_res HZ.out.1 rfl rfl) rfl ⟨?_, HZ.out.2⟩
      rw [HOK.out]
      exact path_out _ _ _ _ _ _ 60 rfl (by simp)
    | true =>
      replace HPK := Lib.hid (show res = (!(Ad.pathT (Ad.numR [91] [93] L1 false)).2 && (Ad.pathT (Ad.numR [91] [93] L1 false)).1.isEmpty) from by rw [HPK.out, Bool.and_true])
      have HX1 := Lib.hid (show (Ad.numR [91] [93] L1 false).1.length ≤ 1000000 from Nat.le_trans (Ad.numR_len _ _ _ _) HLen.out)
      clear HZ HLen
      generalize Ad.numR [91] [93] L1 false = X1 at *
      obtain ⟨W1, hW1⟩ : ∃ W1, W1 = ((w.alloc (.cells zp 69)).alloc (.cells #[.string (s.extract 0 3), .int .i64 0, .int .i64 0, .int .i64 0, .int .i64 0, .int .i64 0] 69)) := ⟨_, rfl⟩
      go_enter Tryz.func211, Tryz.ntmps211
      go_wp2_with (go_at_call 270; refine (KS.out _).mono ?_; rintro e w' ⟨rfl, rfl⟩)
      refine (K1.out _).mono ?_
      rintro e V1 ⟨hst, hbk⟩
      rw [← hW1] at HP0 hbk
      replace HP0 := Lib.hid (HP0.out.below hbk)
      clear hW1 K1 KS hbk W1
      rcases hst.split with ⟨hx, n1, rfl⟩ | ⟨hx, n1, t1, ht1, rfl⟩
      · have HOK := Lib.hid (show res = false from by rw [HPK.out, Ad.pathT_bad hx]; rfl)
        have p0 : V1.cell? ⟨w.heap.size + 1, 0, none⟩ = some (.string (s.extract 0 3)) := HP0.out.path.cell 0
        have p1 : V1.cell? ⟨w.heap.size + 1, 1, none⟩ = some (.int .i64 0) := HP0.out.path.cell 1
        have p2 : V1.cell? ⟨w.heap.size + 1, 2, none⟩ = some (.int .i64 0) := HP0.out.path.cell 2
        have p3 : V1.cell? ⟨w.heap.size + 1, 3, none⟩ = some (.int .i64 0) := HP0.out.path.cell 3
        have p4 : V1.cell? ⟨w.heap.size + 1, 4, none⟩ = some (.int .i64 0) := HP0.out.path.cell 4
        have p5 : V1.cell? ⟨w.heap.size + 1, 5, none⟩ = some (.int .i64 0) := HP0.out.path.cell 5
        have fp := HP0.out.path.frozen
        have r0 := HP0.out.res.cell
        have q0 := HP0.out.res.frozen
        have HE := Lib.hid ((HP0.out.put1 n1).done ⟨#[]⟩ 0 0 0 0 0)
        clear HPK hx hst HP0
        go_wp2_with fail
        refine bodyPost_ret (refPath_res HE.out.1 rfl rfl) rfl ⟨?_, HE.out.2⟩
        rw [HOK.out]
        exact path_out _ _ _ _ _ _ 60 rfl (by simp)
      · have HP1 := Lib.hid (HP0.out.put1 n1)
        have p0 : V1.cell? ⟨w.heap.size + 1, 0, none⟩ = some (.string (s.extract 0 3)) := HP0.out.path.cell 0
        have p1 : V1.cell? ⟨w.heap.size + 1, 1, none⟩ = some (.int .i64 0) := HP0.out.path.cell 1
        have p2 : V1.cell? ⟨w.heap.size + 1, 2, none⟩ = some (.int .i64 0) := HP0.out.path.cell 2
        have p3 : V1.cell? ⟨w.heap.size + 1, 3, none⟩ = some (.int .i64 0) := HP0.out.path.cell 3
        have p4 : V1.cell? ⟨w.heap.size + 1, 4, none⟩ = some (.int .i64 0) := HP0.out.path.cell 4
        have p5 : V1.cell? ⟨w.heap.size + 1, 5, none⟩ = some (.int .i64 0) := HP0.out.path.cell 5
        have fp := HP0.out.path.frozen
        have r0 := HP0.out.res.cell
        have q0 := HP0.out.res.frozen
        have hXe : X1 = (X1.1, false) := by rw [← hx]
        by_cases z1 : t1.size = 0
        · obtain rfl := text_empty z1
          have HOK := Lib.hid (show res = true from by rw [HPK.out, hXe, ← ht1]; rfl)
          have HE := Lib.hid ((HP1.out).done (s.extract 0 3) (n1) (0) (0) (0) (0))
          clear HPK hx hst HP0 HP1 hXe ht1 z1
          go_wp2_with fail
          refine bodyPost_ret (refPath_res HE.out.1 rfl rfl) rfl ⟨?_, HE.out.2⟩
          rw [HOK.out]
          exact path_out _ _ _ _ _ _ 0 rfl (by simp)
        · have hne1 := text_ne z1
          have hlt1 : 0 < t1.size := by omega
          have hi1 : ∀ W : World, (Instr.index 9 (.string t1) (.int .i64 0)).run Tryz.prog W = .ok (.int .u8 (t1[0].toNat : Int)) W := fun W => idx_atu t1 0 hlt1 rfl W
          have hpre : Lib.hasPrefix X1.1 [45] = (t1[0] == 45) := by
            have hd : t1.data.toList = t1[0] :: t1.data.toList.drop 1 := by
              have := List.drop_eq_getElem_cons (l := t1.data.toList) (i := 0) (by simpa using hlt1)
              rw [List.drop_zero] at this
              exact this
            rw [← ht1, hd, Ad.prefix1]
          have hem : X1.1.isEmpty = false := by
            cases h : X1.1 with
            | nil => rw [h] at ht1; exact absurd (by rw [← len_size, ht1]; rfl) z1
            | cons a l => rfl
          by_cases h45 : t1[0] = 45
          rotate_left
          · have q1 : ((t1[0].toNat : Int) != 45) = true := by
              rw [bne_iff_ne]
              intro h
              exact h45 (UInt8.toNat_inj.1 (by show t1[0].toNat = 45; omega))
            have HOK := Lib.hid (show res = false from by
              rw [HPK.out]
              unfold Ad.pathT
              rw [if_neg (by rw [hpre]; simpa using h45), hem]
              simp)
            clear hpre
            generalize t1[0].toNat = d1 at *
            have HE := Lib.hid ((HP0.out.put1 n1).done ⟨#[]⟩ 0 0 0 0 0)
            clear HPK hx hst HP0 HP1 hXe ht1 z1 hem h45
            go_wp2_with fail
            refine bodyPost_ret (refPath_res HE.out.1 rfl rfl) rfl ⟨?_, HE.out.2⟩
            rw [HOK.out]
            exact path_out _ _ _ _ _ _ 60 rfl (by simp)
          have q1 : ((t1[0].toNat : Int) != 45) = false := by rw [h45]; rfl
          replace HPK := Lib.hid (show res = (!(Ad.pathU (Ad.numS [91] [93] (Ad.numR [45] [] X1.1 false))).2 && (Ad.pathU (Ad.numS [91] [93] (Ad.numR [45] [] X1.1 false))).1.isEmpty) from by
            rw [HPK.out]
            unfold Ad.pathT
            rw [if_pos (by rw [hpre]; simpa using h45), Ad.numS_good hx])
          clear hpre hem h45 hXe
          generalize t1[0].toNat = d1 at *
          have K2 := Lib.hid (fun W => refStep_any t1 45 [] (.inr ⟨.inl rfl, rfl⟩) W (by rw [← len_size, ht1]; exact HX1.out))
          rw [ht1] at K2
          have HX2 := Lib.hid (show (Ad.numR [45] [] X1.1 false).1.length ≤ 1000000 from Nat.le_trans (Ad.numR_len _ _ _ _) HX1.out)
          generalize Ad.numR [45] [] X1.1 false = X2 at *
          clear ht1 hx
          obtain ⟨W2, hW2⟩ : ∃ W2, W2 = V1.setCell ⟨w.heap.size + 1, 1, none⟩ (.int .i64 n1) := ⟨_, rfl⟩
          go_wp2_with fail
          refine (K2.out _).mono ?_
          rintro e V2 ⟨hst, hbk⟩
          rw [← hW2] at HP1 hbk
          replace HP1 := Lib.hid (HP1.out.below hbk)
          clear hW2 K2 hbk W2 p0 p1 p2 p3 p4 p5 fp r0 q0 hi1 q1 HP0
          rcases hst.split with ⟨hx, n2, rfl⟩ | ⟨hx, n2, t2, ht2, rfl⟩
          · have HOK := Lib.hid (show res = false from by rw [HPK.out, Ad.pathU_eq, Ad.numS_bad (Ad.numS_bad (Ad.numS_bad hx))]; rfl)
            have p0 : V2.cell? ⟨w.heap.size + 1, 0, none⟩ = some (.string (s.extract 0 3)) := HP1.out.path.cell 0
            have p1 : V2.cell? ⟨w.heap.size + 1, 1, none⟩ = some (.int .i64 n1) := HP1.out.path.cell 1
            have p2 : V2.cell? ⟨w.heap.size + 1, 2, none⟩ = some (.int .i64 0) := HP1.out.path.cell 2
            have p3 : V2.cell? ⟨w.heap.size + 1, 3, none⟩ = some (.int .i64 0) := HP1.out.path.cell 3
            have p4 : V2.cell? ⟨w.heap.size + 1, 4, none⟩ = some (.int .i64 0) := HP1.out.path.cell 4
            have p5 : V2.cell? ⟨w.heap.size + 1, 5, none⟩ = some (.int .i64 0) := HP1.out.path.cell 5
            have fp := HP1.out.path.frozen
            have r0 := HP1.out.res.cell
            have q0 := HP1.out.res.frozen
            have HE := Lib.hid (((HP1.out.put2 n2).put5 1).done ⟨#[]⟩ 0 0 0 0 0)
            clear HPK hx hst HP1
            go_wp2_with fail
            refine bodyPost_ret (refPath_res HE.out.1 rfl rfl) rfl ⟨?_, HE.out.2⟩
            rw [HOK.out]
            exact path_out _ _ _ _ _ _ 60 rfl (by simp)
          · have HP2 := Lib.hid (HP1.out.put2 n2)
            have p0 : V2.cell? ⟨w.heap.size + 1, 0, none⟩ = some (.string (s.extract 0 3)) := HP1.out.path.cell 0
            have p1 : V2.cell? ⟨w.heap.size + 1, 1, none⟩ = some (.int .i64 n1) := HP1.out.path.cell 1
            have p2 : V2.cell? ⟨w.heap.size + 1, 2, none⟩ = some (.int .i64 0) := HP1.out.path.cell 2
            have p3 : V2.cell? ⟨w.heap.size + 1, 3, none⟩ = some (.int .i64 0) := HP1.out.path.cell 3
            have p4 : V2.cell? ⟨w.heap.size + 1, 4, none⟩ = some (.int .i64 0) := HP1.out.path.cell 4
            have p5 : V2.cell? ⟨w.heap.size + 1, 5, none⟩ = some (.int .i64 0) := HP1.out.path.cell 5
            have fp := HP1.out.path.frozen
            have r0 := HP1.out.res.cell
            have q0 := HP1.out.res.frozen
            replace HPK := Lib.hid (show res = (!(Ad.numS [46] [] (Ad.numS [46] [] (Ad.numR [91] [93] X2.1 false))).2 && (Ad.numS [46] [] (Ad.numS [46] [] (Ad.numR [91] [93] X2.1 false))).1.isEmpty) from by
              rw [HPK.out, Ad.pathU_eq, Ad.numS_good hx])
            have K3 := Lib.hid (fun W => refStep_any t2 91 [93] (.inl ⟨rfl, rfl⟩) W (by rw [← len_size, ht2]; exact HX2.out))
            rw [ht2] at K3
            have HX3 := Lib.hid (show (Ad.numR [91] [93] X2.1 false).1.length ≤ 1000000 from Nat.le_trans (Ad.numR_len _ _ _ _) HX2.out)
            generalize Ad.numR [91] [93] X2.1 false = X3 at *
            clear ht2 hx
            obtain ⟨W3, hW3⟩ : ∃ W3, W3 = V2.setCell ⟨w.heap.size + 1, 2, none⟩ (.int .i64 n2) := ⟨_, rfl⟩
            go_wp2_with fail
            refine (K3.out _).mono ?_
            rintro e V3 ⟨hst, hbk⟩
            rw [← hW3] at HP2 hbk
            replace HP2 := Lib.hid (HP2.out.below hbk)
            clear hW3 K3 hbk W3 p0 p1 p2 p3 p4 p5 fp r0 q0 HP1
            rcases hst.split with ⟨hx, n3, rfl⟩ | ⟨hx, n3, t3, ht3, rfl⟩
            · have HOK := Lib.hid (show res = false from by rw [HPK.out, Ad.numS_bad (Ad.numS_bad hx)]; rfl)
              have p0 : V3.cell? ⟨w.heap.size + 1, 0, none⟩ = some (.string (s.extract 0 3)) := HP2.out.path.cell 0
              have p1 : V3.cell? ⟨w.heap.size + 1, 1, none⟩ = some (.int .i64 n1) := HP2.out.path.cell 1
              have p2 : V3.cell? ⟨w.heap.size + 1, 2, none⟩ = some (.int .i64 n2) := HP2.out.path.cell 2
              have p3 : V3.cell? ⟨w.heap.size + 1, 3, none⟩ = some (.int .i64 0) := HP2.out.path.cell 3
              have p4 : V3.cell? ⟨w.heap.size + 1, 4, none⟩ = some (.int .i64 0) := HP2.out.path.cell 4
              have p5 : V3.cell? ⟨w.heap.size + 1, 5, none⟩ = some (.int .i64 0) := HP2.out.path.cell 5
              have fp := HP2.out.path.frozen
              have r0 := HP2.out.res.cell
              have q0 := HP2.out.res.frozen
              have HE := Lib.hid (((HP2.out.put3 n3).put5 1).done ⟨#[]⟩ 0 0 0 0 0)
              clear HPK hx hst HP2
              go_wp2_with fail
              refine bodyPost_ret (refPath_res HE.out.1 rfl rfl) rfl ⟨?_, HE.out.2⟩
              rw [HOK.out]
              exact path_out _ _ _ _ _ _ 60 rfl (by simp)
            · have HP3 := Lib.hid (HP2.out.put3 n3)
              have p0 : V3.cell? ⟨w.heap.size + 1, 0, none⟩ = some (.string (s.extract 0 3)) := HP2.out.path.cell 0
              have p1 : V3.cell? ⟨w.heap.size + 1, 1, none⟩ = some (.int .i64 n1) := HP2.out.path.cell 1
              have p2 : V3.cell? ⟨w.heap.size + 1, 2, none⟩ = some (.int .i64 n2) := HP2.out.path.cell 2
              have p3 : V3.cell? ⟨w.heap.size + 1, 3, none⟩ = some (.int .i64 0) := HP2.out.path.cell 3
              have p4 : V3.cell? ⟨w.heap.size + 1, 4, none⟩ = some (.int .i64 0) := HP2.out.path.cell 4
              have p5 : V3.cell? ⟨w.heap.size + 1, 5, none⟩ = some (.int .i64 0) := HP2.out.path.cell 5
              have fp := HP2.out.path.frozen
              have r0 := HP2.out.res.cell
              have q0 := HP2.out.res.frozen
              replace HPK := Lib.hid (show res = (!(Ad.numS [46] [] (Ad.numR [46] [] X3.1 false)).2 && (Ad.numS [46] [] (Ad.numR [46] [] X3.1 false)).1.isEmpty) from by
                rw [HPK.out, Ad.numS_good hx])
              have K4 := Lib.hid (fun W => refStep_any t3 46 [] (.inr ⟨.inr rfl, rfl⟩) W (by rw [← len_size, ht3]; exact HX3.out))
              rw [ht3] at K4
              have HX4 := Lib.hid (show (Ad.numR [46] [] X3.1 false).1.length ≤ 1000000 from Nat.le_trans (Ad.numR_len _ _ _ _) HX3.out)
              generalize Ad.numR [46] [] X3.1 false = X4 at *
              clear ht3 hx
              obtain ⟨W4, hW4⟩ : ∃ W4, W4 = V3.setCell ⟨w.heap.size + 1, 3, none⟩ (.int .i64 n3) := ⟨_, rfl⟩
              go_wp2_with fail
              refine (K4.out _).mono ?_
              rintro e V4 ⟨hst, hbk⟩
              rw [← hW4] at HP3 hbk
              replace HP3 := Lib.hid (HP3.out.below hbk)
              clear hW4 K4 hbk W4 p0 p1 p2 p3 p4 p5 fp r0 q0 HP2
              rcases hst.split with ⟨hx, n4, rfl⟩ | ⟨hx, n4, t4, ht4, rfl⟩
              · have HOK := Lib.hid (show res = false from by rw [HPK.out, Ad.numS_bad hx]; rfl)
                have p0 : V4.cell? ⟨w.heap.size + 1, 0, none⟩ = some (.string (s.extract 0 3)) := HP3.out.path.cell 0
                have p1 : V4.cell? ⟨w.heap.size + 1, 1, none⟩ = some (.int .i64 n1) := HP3.out.path.cell 1
                have p2 : V4.cell? ⟨w.heap.size + 1, 2, none⟩ = some (.int .i64 n2) := HP3.out.path.cell 2
                have p3 : V4.cell? ⟨w.heap.size + 1, 3, none⟩ = some (.int .i64 n3) := HP3.out.path.cell 3
                have p4 : V4.cell? ⟨w.heap.size + 1, 4, none⟩ = some (.int .i64 0) := HP3.out.path.cell 4
                have p5 : V4.cell? ⟨w.heap.size + 1, 5, none⟩ = some (.int .i64 0) := HP3.out.path.cell 5
                have fp := HP3.out.path.frozen
                have r0 := HP3.out.res.cell
                have q0 := HP3.out.res.frozen
                have HE := Lib.hid (((HP3.out.put4 n4).put5 1).done ⟨#[]⟩ 0 0 0 0 0)
                clear HPK hx hst HP3
                go_wp2_with fail
                refine bodyPost_ret (refPath_res HE.out.1 rfl rfl) rfl ⟨?_, HE.out.2⟩
                rw [HOK.out]
                exact path_out _ _ _ _ _ _ 60 rfl (by simp)
              · have HP4 := Lib.hid ((HP3.out.put4 n4).put5 1)
                have p0 : V4.cell? ⟨w.heap.size + 1, 0, none⟩ = some (.string (s.extract 0 3)) := HP3.out.path.cell 0
                have p1 : V4.cell? ⟨w.heap.size + 1, 1, none⟩ = some (.int .i64 n1) := HP3.out.path.cell 1
                have p2 : V4.cell? ⟨w.heap.size + 1, 2, none⟩ = some (.int .i64 n2) := HP3.out.path.cell 2
                have p3 : V4.cell? ⟨w.heap.size + 1, 3, none⟩ = some (.int .i64 n3) := HP3.out.path.cell 3
                have p4 : V4.cell? ⟨w.heap.size + 1, 4, none⟩ = some (.int .i64 0) := HP3.out.path.cell 4
                have p5 : V4.cell? ⟨w.heap.size + 1, 5, none⟩ = some (.int .i64 0) := HP3.out.path.cell 5
                have fp := HP3.out.path.frozen
                have r0 := HP3.out.res.cell
                have q0 := HP3.out.res.frozen
                by_cases z4 : t4.size = 0
                · obtain rfl := text_empty z4
                  have HOK := Lib.hid (show res = true from by
                    have hXe : X4 = ([], false) := Prod.ext ht4.symm hx
                    rw [HPK.out, hXe]
                    rfl)
                  have HE := Lib.hid ((HP4.out).done (s.extract 0 3) (n1) (n2) (n3) (n4) (1))
                  clear HPK hx hst HP3 HP4 ht4 z4
                  go_wp2_with fail
                  refine bodyPost_ret (refPath_res HE.out.1 rfl rfl) rfl ⟨?_, HE.out.2⟩
                  rw [HOK.out]
                  exact path_out _ _ _ _ _ _ 0 rfl (by simp)
                · have hne4 := text_ne z4
                  replace HPK := Lib.hid (show res = (!(Ad.numR [46] [] X4.1 false).2 && (Ad.numR [46] [] X4.1 false).1.isEmpty) from by
                    rw [HPK.out, Ad.numS_good hx])
                  have K5 := Lib.hid (fun W => refStep_any t4 46 [] (.inr ⟨.inr rfl, rfl⟩) W (by rw [← len_size, ht4]; exact HX4.out))
                  rw [ht4] at K5
                  have HX5 := Lib.hid (show (Ad.numR [46] [] X4.1 false).1.length ≤ 1000000 from Nat.le_trans (Ad.numR_len _ _ _ _) HX4.out)
                  generalize Ad.numR [46] [] X4.1 false = X5 at *
                  clear ht4 hx
                  obtain ⟨W5, hW5⟩ : ∃ W5, W5 = (V4.setCell ⟨w.heap.size + 1, 4, none⟩ (.int .i64 n4)).setCell ⟨w.heap.size + 1, 5, none⟩ (.int .i64 1) := ⟨_, rfl⟩
                  go_wp2_with fail
                  refine (K5.out _).mono ?_
                  rintro e V5 ⟨hst, hbk⟩
                  rw [← hW5] at HP4 hbk
                  replace HP4 := Lib.hid (HP4.out.below hbk)
                  clear hW5 K5 hbk W5 p0 p1 p2 p3 p4 p5 fp r0 q0 HP3 hne4
                  rcases hst.split with ⟨hx, n5, rfl⟩ | ⟨hx, n5, t5, ht5, rfl⟩
                  · have HOK := Lib.hid (show res = false from by rw [HPK.out, hx]; rfl)
                    have p0 : V5.cell? ⟨w.heap.size + 1, 0, none⟩ = some (.string (s.extract 0 3)) := HP4.out.path.cell 0
                    have p1 : V5.cell? ⟨w.heap.size + 1, 1, none⟩ = some (.int .i64 n1) := HP4.out.path.cell 1
                    have p2 : V5.cell? ⟨w.heap.size + 1, 2, none⟩ = some (.int .i64 n2) := HP4.out.path.cell 2
                    have p3 : V5.cell? ⟨w.heap.size + 1, 3, none⟩ = some (.int .i64 n3) := HP4.out.path.cell 3
                    have p4 : V5.cell? ⟨w.heap.size + 1, 4, none⟩ = some (.int .i64 n4) := HP4.out.path.cell 4
                    have p5 : V5.cell? ⟨w.heap.size + 1, 5, none⟩ = some (.int .i64 1) := HP4.out.path.cell 5
                    have fp := HP4.out.path.frozen
                    have r0 := HP4.out.res.cell
                    have q0 := HP4.out.res.frozen
                    have HE := Lib.hid ((HP4.out.put5 n5).done ⟨#[]⟩ 0 0 0 0 0)
                    clear HPK hx hst HP4
                    go_wp2_with fail
                    refine bodyPost_ret (refPath_res HE.out.1 rfl rfl) rfl ⟨?_, HE.out.2⟩
                    rw [HOK.out]
                    exact path_out _ _ _ _ _ _ 60 rfl (by simp)
                  · skip
                    have p0 : V5.cell? ⟨w.heap.size + 1, 0, none⟩ = some (.string (s.extract 0 3)) := HP4.out.path.cell 0
                    have p1 : V5.cell? ⟨w.heap.size + 1, 1, none⟩ = some (.int .i64 n1) := HP4.out.path.cell 1
                    have p2 : V5.cell? ⟨w.heap.size + 1, 2, none⟩ = some (.int .i64 n2) := HP4.out.path.cell 2
                    have p3 : V5.cell? ⟨w.heap.size + 1, 3, none⟩ = some (.int .i64 n3) := HP4.out.path.cell 3
                    have p4 : V5.cell? ⟨w.heap.size + 1, 4, none⟩ = some (.int .i64 n4) := HP4.out.path.cell 4
                    have p5 : V5.cell? ⟨w.heap.size + 1, 5, none⟩ = some (.int .i64 1) := HP4.out.path.cell 5
                    have fp := HP4.out.path.frozen
                    have r0 := HP4.out.res.cell
                    have q0 := HP4.out.res.frozen
                    by_cases z5 : t5.size = 0
                    · obtain rfl := text_empty z5
                      have HOK := Lib.hid (show res = true from by rw [HPK.out, hx, ← ht5]; rfl)
                      have HE := Lib.hid ((HP4.out.put5 n5).done (s.extract 0 3) (n1) (n2) (n3) (n4) (n5))
                      clear HPK hx hst HP4 ht5 z5
                      go_wp2_with fail
                      refine bodyPost_ret (refPath_res HE.out.1 rfl rfl) rfl ⟨?_, HE.out.2⟩
                      rw [HOK.out]
                      exact path_out _ _ _ _ _ _ 0 rfl (by simp)
                    · have hne5 := text_ne z5
                      have HOK := Lib.hid (show res = false from by
                        rw [HPK.out, ← ht5, hx]
                        cases h : t5.data.toList with
                        | nil => exact absurd (by rw [← len_size, h]; rfl) z5
                        | cons a l => rfl)
                      have HE := Lib.hid ((HP4.out.put5 n5).done ⟨#[]⟩ 0 0 0 0 0)
                      clear HPK hx hst HP4 ht5 z5
                      go_wp2_with fail
                      refine bodyPost_ret (refPath_res HE.out.1 rfl rfl) rfl ⟨?_, HE.out.2⟩
                      rw [HOK.out]
                      exact path_out _ _ _ _ _ _ 60 rfl (by simp)
end Go.Proofs.YtmabpnmnppfgaaaGreatDoor
