/- What the reference's Forward returns. -/
import Derived.Test.YtjbhlojfmcldjabDue2
import Derived.Test.YtjbhlojfmcldjabPr15
import Derived.Test.YtjbhlojfmcldjabTwo
import Derived.Deep.DeepCutAuto
namespace Go.Proofs.Ytjbhlojfmcldjab
set_option linter.unusedVariables false
open Go.RowKit Go.BigFrame
namespace P
/-- Does the reference let a leg move so? -/
def mayMove (x y : Leg) : Bool := (x.status == 1 || x.status == 2) && ((y.status == 2 || y.status == 3 || y.status == 4 || y.status == 0) && decide (x.tries ≤ y.tries))
theorem mayLeg_eq2 (x y : Leg) : mayLeg x y = ((x.name.toList == y.name.toList) && (x.status == y.status || mayMove x y)) := by
  unfold mayLeg mayMove
  rw [ByteArray.toList_eq, ByteArray.toList_eq]
theorem mayLegs_at {la lb : List Leg} {k : Nat} {x y : Leg} (hx : la[k]? = some x) (hy : lb[k]? = some y) : mayLegs (la.drop k) (lb.drop k) = (mayLeg x y && mayLegs (la.drop (k + 1)) (lb.drop (k + 1))) := by
  rw [drop_at hx, drop_at hy, mayLegs]
theorem mayLegs_len2 : ∀ {la lb : List Leg}, la.length ≠ lb.length → mayLegs la lb = false
  | [], [], h => absurd rfl h
  | [], _ :: _, _ => rfl
  | _ :: _, [], _ => rfl
  | x :: la, y :: lb, h => by
    rw [mayLegs, mayLegs_len2 (by simpa using h), Bool.and_false]
end P
set_option maxRecDepth 100000 in
set_option maxHeartbeats 4000000 in
theorem refForward_any (id run tm st dn flt : Int) (raw : ByteArray) (A : Option Addr) (m cp : Nat) (la : List P.Leg) (idb runb tmb stb dnb fltb : Int) (rawb : ByteArray) (Ab : Option Addr) (mb cpb : Nat) (lb : List P.Leg) (B : Nat) (w : World)
    (ha : LegsAt w B A m la) (hb : LegsAt w B Ab mb lb) (hB : B ≤ w.heap.size) (hm : m ≤ maxLen) (hmb : mb ≤ maxLen) :
    Calls Try.prog 20 #[.agg #[.int .i64 id, .int .i64 run, .int .i64 tm, .int .i64 st, .int .i64 dn, .string raw, .int .i64 flt, .slice A m cp], .agg #[.int .i64 idb, .int .i64 runb, .int .i64 tmb, .int .i64 stb, .int .i64 dnb, .string rawb, .int .i64 fltb, .slice Ab mb cpb]] w fun e w' => e = .returned (.bool (P.forward ⟨id, run, tm, st, dn, raw, flt⟩ ⟨idb, runb, tmb, stb, dnb, rawb, fltb⟩ la lb)) ∧ Below w.heap.size w w' := by
  have hm' := hm
  unfold maxLen at hm'
  have key := P.forward_key ⟨id, run, tm, st, dn, raw, flt⟩ ⟨idb, runb, tmb, stb, dnb, rawb, fltb⟩ la lb
  simp only at key
  have hbel := ((Below.refl w.heap.size w).alloc (Nat.le_refl _) (.cells #[.int .i64 id, .int .i64 run, .int .i64 tm, .int .i64 st, .int .i64 dn, .string raw, .int .i64 flt, .slice A m cp] 33)).alloc (by simp) (.cells #[.int .i64 idb, .int .i64 runb, .int .i64 tmb, .int .i64 stb, .int .i64 dnb, .string rawb, .int .i64 fltb, .slice Ab mb cpb] 33)
  have k0 := (Blk.new w 33 #[.int .i64 id, .int .i64 run, .int .i64 tm, .int .i64 st, .int .i64 dn, .string raw, .int .i64 flt, .slice A m cp]).alloc (.cells #[.int .i64 idb, .int .i64 runb, .int .i64 tmb, .int .i64 stb, .int .i64 dnb, .string rawb, .int .i64 fltb, .slice Ab mb cpb] 33)
  have k1 := Blk.new (w.alloc (.cells #[.int .i64 id, .int .i64 run, .int .i64 tm, .int .i64 st, .int .i64 dn, .string raw, .int .i64 flt, .slice A m cp] 33)) 33 #[.int .i64 idb, .int .i64 runb, .int .i64 tmb, .int .i64 stb, .int .i64 dnb, .string rawb, .int .i64 fltb, .slice Ab mb cpb]
  rw [show (w.alloc (.cells #[.int .i64 id, .int .i64 run, .int .i64 tm, .int .i64 st, .int .i64 dn, .string raw, .int .i64 flt, .slice A m cp] 33)).heap.size = w.heap.size + 1 from by simp] at k1
  have hz : ((w.alloc (.cells #[.int .i64 id, .int .i64 run, .int .i64 tm, .int .i64 st, .int .i64 dn, .string raw, .int .i64 flt, .slice A m cp] 33)).alloc (.cells #[.int .i64 idb, .int .i64 runb, .int .i64 tmb, .int .i64 stb, .int .i64 dnb, .string rawb, .int .i64 fltb, .slice Ab mb cpb] 33)).heap.size = w.heap.size + 2 := by simp
  have HA := Lib.hid ha
  have HBB := Lib.hid hb
  have K0 := Lib.hid k0
  have K1 := Lib.hid k1
  have BB := Lib.hid hbel
  have Z2 := Lib.hid hz
  have c0 := fun i => k0.cell i
  have c1 := fun i => k1.cell i
  clear ha hb hbel hz k0 k1
  rcases key with ⟨t1, hf⟩ | ⟨t1, t2, hf⟩ | ⟨t1, t2, t3, hf⟩ | ⟨t1, t2, t3, t4, hf⟩ | ⟨t1, t2, t3, t4, hk⟩
  case inr.inr.inr.inr =>
    have u1 := ne_of t1
    have u2 := ne_of t2
    have u3 := ne_of t3
    have u4 := ne_of t4
    rcases hk with ⟨t5, hf⟩ | ⟨t5, t6, hf⟩ | ⟨t5, t6, t7, hf⟩ | ⟨t5, t6, t7, hf⟩
    · rw [hf]
      clear hf
      go_enter Try.func20, Try.ntmps20
      go_wp2
      go_ret
      exact ⟨rfl, BB.out⟩
    · rw [hf]
      have u6 := ne_of t6
      clear hf
      go_enter Try.func20, Try.ntmps20
      go_wp2
      go_ret
      exact ⟨rfl, BB.out⟩
    · rw [hf]
      have u6 := ne_of t6
      clear hf
      go_enter Try.func20, Try.ntmps20
      go_wp2_with fail
      go_loopw [5] (fun x wr => x = .int .i64 0 ∧ wr = ((w.alloc (.cells #[.int .i64 id, .int .i64 run, .int .i64 tm, .int .i64 st, .int .i64 dn, .string raw, .int .i64 flt, .slice A m cp] 33)).alloc (.cells #[.int .i64 idb, .int .i64 runb, .int .i64 tmb, .int .i64 stb, .int .i64 dnb, .string rawb, .int .i64 fltb, .slice Ab mb cpb] 33))) (fun x _ => 0)
      case atStart => exact ⟨rfl, rfl⟩
      case round =>
        obtain ⟨rfl, rfl⟩ := hrel
        go_wp2
        all_goals go_ret
        all_goals exact ⟨rfl, BB.out⟩
    · rw [hf]
      have u6 := ne_of t6
      clear hf
      by_cases hmm : m = mb
      · subst hmm
        have u8 : ((m : Int) != (m : Int)) = false := by simp
        go_enter Try.func20, Try.ntmps20
        go_wp2_with fail
        clear c0 c1
        go_loopw [5] (fun x wr => ∃ k : Nat, k ≤ m ∧ x = .int .i64 k ∧ P.mayLegs (la.drop k) (lb.drop k) = P.mayLegs la lb ∧ Below (w.heap.size + 2) ((w.alloc (.cells #[.int .i64 id, .int .i64 run, .int .i64 tm, .int .i64 st, .int .i64 dn, .string raw, .int .i64 flt, .slice A m cp] 33)).alloc (.cells #[.int .i64 idb, .int .i64 runb, .int .i64 tmb, .int .i64 stb, .int .i64 dnb, .string rawb, .int .i64 fltb, .slice Ab m cpb] 33)) wr) (fun x _ => m - (intOf x).toNat)
        case atStart => exact ⟨0, by omega, rfl, rfl, Below.refl _ _⟩
        case round =>
          obtain ⟨k, hk, rfl, hmay, hbel⟩ := hrel
          have HM := Lib.hid hmay
          have HB := Lib.hid hbel
          have BW := Lib.hid (BB.out.trans (hbel.mono (by omega)))
          have K0r := Lib.hid (K0.out.below hbel (by omega))
          have K1r := Lib.hid (K1.out.below hbel (by omega))
          have c0 := fun i => K0r.out.cell i
          have c1 := fun i => K1r.out.cell i
          have hzr : w.heap.size + 2 ≤ wr.heap.size := by have := hbel.size; rw [Z2.out] at this; exact this
          clear hmay hbel
          by_cases hlt : k < m
          · have v1 : decide ((k : Int) < (m : Int)) = true := by simp; omega
            have LA := Lib.hid ((HA.out.below (BW.out.mono hB)).more (Nat.le_trans hB BW.out.size))
            have LB := Lib.hid ((HBB.out.below (BW.out.mono hB)).more (Nat.le_trans hB BW.out.size))
            obtain ⟨ad, x, rfl, hxb, hxk, hxc⟩ := LA.out.in_ hlt
            obtain ⟨ad2, y, rfl, hyb, hyk, hyc⟩ := LB.out.in_ hlt
            have MS := Lib.hid (P.mayLegs_at hxk hyk)
            have XC := Lib.hid hxc
            have YC := Lib.hid hyc
            have XB := Lib.hid hxb
            have YB := Lib.hid hyb
            clear hxk hyk hxc hyc hxb hyb
            go_wp2_with fail
            clear c0 c1
            refine wp_region_gen 14 [10, 11] (TwoI wr 40 #[.string ⟨#[]⟩, .int .i64 0, .int .i64 0, .int .i64 0, .string ⟨#[]⟩, .string ⟨#[]⟩] #[.string x.name, .int .i64 x.status, .int .i64 x.tries, .int .i64 x.due, .string x.payload, .string x.reply] #[.string y.name, .int .i64 y.status, .int .i64 y.tries, .int .i64 y.due, .string y.payload, .string y.reply] 10 11 12 13) (by kernel_rfl) (by kernel_rfl) (TwoI.start wr) ?_
            apply wpGen_pure rfl
            · intro L vs wx hI hR hL K hK
              go_simp
              exact hK _ (hI.pure (by decide) (by decide) (by decide) (by decide))
            intro KK hKK
            go_simp
            refine hKK _ ?_
            clear hKK KK
            apply wpGen_pure rfl
            · intro L vs wx hI hR hL K hK
              have c0 := fun i => (K0r.out.stays hI.below).cell i
              go_simp
              exact hK _ (hI.pure (by decide) (by decide) (by decide) (by decide))
            intro KK hKK
            go_simp
            refine hKK _ ?_
            clear hKK KK
            apply wpGen_pure rfl
            · intro L vs wx hI hR hL K hK
              go_simp
              exact hK _ (hI.pure (by decide) (by decide) (by decide) (by decide))
            intro KK hKK
            go_simp
            refine hKK _ ?_
            clear hKK KK
            apply wpGen_pure rfl
            · intro L vs wx hI hR hL K hK
              go_simp
              exact hK _ (hI.pure (by decide) (by decide) (by decide) (by decide))
            intro KK hKK
            go_simp
            refine hKK _ ?_
            clear hKK KK
            apply wpGen_pure rfl
            · intro L vs wx hI hR hL K hK
              obtain ⟨x0, x1, x2, x3, x4, x5⟩ := XC.out.keep hI.below XB.out
              go_simp
              exact hK _ (hI.pure (by decide) (by decide) (by decide) (by decide))
            intro KK hKK
            go_simp
            refine hKK _ ?_
            clear hKK KK
            apply wpGen_pure rfl
            · intro L vs wx hI hR hL K hK
              go_simp
              exact hK _ (hI.pure (by decide) (by decide) (by decide) (by decide))
            intro KK hKK
            go_simp
            refine hKK _ ?_
            clear hKK KK
            apply wpGen_pure rfl
            · intro L vs wx hI hR hL K hK
              have c1 := fun i => (K1r.out.stays hI.below).cell i
              go_simp
              exact hK _ (hI.pure (by decide) (by decide) (by decide) (by decide))
            intro KK hKK
            go_simp
            refine hKK _ ?_
            clear hKK KK
            apply wpGen_pure rfl
            · intro L vs wx hI hR hL K hK
              go_simp
              exact hK _ (hI.pure (by decide) (by decide) (by decide) (by decide))
            intro KK hKK
            go_simp
            refine hKK _ ?_
            clear hKK KK
            apply wpGen_pure rfl
            · intro L vs wx hI hR hL K hK
              go_simp
              exact hK _ (hI.pure (by decide) (by decide) (by decide) (by decide))
            intro KK hKK
            go_simp
            refine hKK _ ?_
            clear hKK KK
            apply wpGen_pure rfl
            · intro L vs wx hI hR hL K hK
              obtain ⟨y0, y1, y2, y3, y4, y5⟩ := YC.out.keep hI.below YB.out
              go_simp
              exact hK _ (hI.pure (by decide) (by decide) (by decide) (by decide))
            intro KK hKK
            go_simp
            refine hKK _ ?_
            clear hKK KK
            refine wpGen_fact rfl ?_ ?_
            · intro L vs wx hI hR hL K hK
              go_simp
              exact hK _ _ (hI.makeA hL (by decide) (by decide) (by decide))
            intro KK hKK
            go_simp
            refine hKK _ ?_
            clear hKK KK
            refine wpGen_fact rfl ?_ ?_
            · intro L vs wx hI hR hL K hK
              go_simp
              exact hK _ _ (hI.makeB hL (by decide) (by decide) (by decide))
            intro KK hKK
            go_simp
            refine hKK _ ?_
            clear hKK KK
            apply wpGen_pure rfl
            · intro L vs wx hI hR hL K hK
              have hLa := hR 10 (by kernel_rfl)
              obtain ⟨g, hg, hge, hbk⟩ := hI.first hLa
              rw [if_neg (by rw [hL]; simp)] at hbk
              have c0 := fun i => hbk.cell i
              have f0 := fun i => hbk.frozen i
              go_simp
              exact hK _ (hI.putA hLa hg hbk.put6 (grown_put6 _ _ _ _ _ _ _ _) hge _ (by decide) (by decide) (by decide))
            intro KK hKK
            go_simp
            refine hKK _ ?_
            clear hKK KK
            apply wpGen_pure rfl
            · intro L vs wx hI hR hL K hK
              have hLb := hR 11 (by kernel_rfl)
              obtain ⟨g, hg, hge, hbk⟩ := hI.second hLb
              rw [if_neg (by rw [hL]; simp)] at hbk
              have c0 := fun i => hbk.cell i
              have f0 := fun i => hbk.frozen i
              go_simp
              exact hK _ (hI.putB hLb hg hbk.put6 (grown_put6 _ _ _ _ _ _ _ _) hge _ (by decide) (by decide) (by decide))
            intro KK hKK
            go_simp
            refine hKK _ ?_
            clear hKK KK
            refine wpGen_nil ?_
            intro vs w6 hI6
            obtain ⟨gA, eA, -, bA⟩ := hI6.first (by decide)
            obtain ⟨gB, eB, -, bB⟩ := hI6.second (by decide)
            rw [if_pos (by decide)] at bA bB
            have S6 := Lib.hid hI6.below
            have BA := Lib.hid bA
            have BB2 := Lib.hid bB
            intro KK hKK
            rw [eA, eB]
            clear hI6 eA eB bA bB
            simp only [List.drop_succ_cons, List.drop_nil]
            have HB6 := Lib.hid (HB.out.trans (S6.out.mono hzr))
            have d0 := fun i => BA.out.cell i
            have d1 := fun i => BB2.out.cell i
            go_upto_region 11 with fail
            go_cut [8] (fun s8 wx => wx = w6 ∧ s8 = .bool (P.mayMove x y))
            case first =>
              cases o1 : (x.status == 1)
              · cases o2 : (x.status == 2)
                · have MV := Lib.hid (show P.mayMove x y = false from by simp [P.mayMove, o1, o2])
                  go_wp2_with fail
                  go_meet
                  exact ⟨rfl, by rw [MV.out]⟩
                · cases p2 : (y.status == 2)
                  · cases p3 : (y.status == 3)
                    · cases p4 : (y.status == 4)
                      · cases p0 : (y.status == 0)
                        · have MV := Lib.hid (show P.mayMove x y = false from by simp [P.mayMove, o1, o2, p2, p3, p4, p0])
                          go_wp2_with fail
                          go_meet
                          exact ⟨rfl, by rw [MV.out]⟩
                        · cases tr : decide (x.tries ≤ y.tries)
                          · have MV := Lib.hid (show P.mayMove x y = false from by simp [P.mayMove, o1, o2, p2, p3, p4, p0, tr, of_decide_eq_false tr])
                            go_wp2_with fail
                            go_meet
                            exact ⟨rfl, by rw [MV.out]⟩
                          · have MV := Lib.hid (show P.mayMove x y = true from by simp [P.mayMove, o1, o2, p2, p3, p4, p0, of_decide_eq_true tr])
                            go_wp2_with fail
                            go_meet
                            exact ⟨rfl, by rw [MV.out]⟩
                      · cases tr : decide (x.tries ≤ y.tries)
                        · have MV := Lib.hid (show P.mayMove x y = false from by simp [P.mayMove, o1, o2, p2, p3, p4, tr, of_decide_eq_false tr])
                          go_wp2_with fail
                          go_meet
                          exact ⟨rfl, by rw [MV.out]⟩
                        · have MV := Lib.hid (show P.mayMove x y = true from by simp [P.mayMove, o1, o2, p2, p3, p4, of_decide_eq_true tr])
                          go_wp2_with fail
                          go_meet
                          exact ⟨rfl, by rw [MV.out]⟩
                    · cases tr : decide (x.tries ≤ y.tries)
                      · have MV := Lib.hid (show P.mayMove x y = false from by simp [P.mayMove, o1, o2, p2, p3, tr, of_decide_eq_false tr])
                        go_wp2_with fail
                        go_meet
                        exact ⟨rfl, by rw [MV.out]⟩
                      · have MV := Lib.hid (show P.mayMove x y = true from by simp [P.mayMove, o1, o2, p2, p3, of_decide_eq_true tr])
                        go_wp2_with fail
                        go_meet
                        exact ⟨rfl, by rw [MV.out]⟩
                  · cases tr : decide (x.tries ≤ y.tries)
                    · have MV := Lib.hid (show P.mayMove x y = false from by simp [P.mayMove, o1, o2, p2, tr, of_decide_eq_false tr])
                      go_wp2_with fail
                      go_meet
                      exact ⟨rfl, by rw [MV.out]⟩
                    · have MV := Lib.hid (show P.mayMove x y = true from by simp [P.mayMove, o1, o2, p2, of_decide_eq_true tr])
                      go_wp2_with fail
                      go_meet
                      exact ⟨rfl, by rw [MV.out]⟩
              · cases p2 : (y.status == 2)
                · cases p3 : (y.status == 3)
                  · cases p4 : (y.status == 4)
                    · cases p0 : (y.status == 0)
                      · have MV := Lib.hid (show P.mayMove x y = false from by simp [P.mayMove, o1, p2, p3, p4, p0])
                        go_wp2_with fail
                        go_meet
                        exact ⟨rfl, by rw [MV.out]⟩
                      · cases tr : decide (x.tries ≤ y.tries)
                        · have MV := Lib.hid (show P.mayMove x y = false from by simp [P.mayMove, o1, p2, p3, p4, p0, tr, of_decide_eq_false tr])
                          go_wp2_with fail
                          go_meet
                          exact ⟨rfl, by rw [MV.out]⟩
                        · have MV := Lib.hid (show P.mayMove x y = true from by simp [P.mayMove, o1, p2, p3, p4, p0, of_decide_eq_true tr])
                          go_wp2_with fail
                          go_meet
                          exact ⟨rfl, by rw [MV.out]⟩
                    · cases tr : decide (x.tries ≤ y.tries)
                      · have MV := Lib.hid (show P.mayMove x y = false from by simp [P.mayMove, o1, p2, p3, p4, tr, of_decide_eq_false tr])
                        go_wp2_with fail
                        go_meet
                        exact ⟨rfl, by rw [MV.out]⟩
                      · have MV := Lib.hid (show P.mayMove x y = true from by simp [P.mayMove, o1, p2, p3, p4, of_decide_eq_true tr])
                        go_wp2_with fail
                        go_meet
                        exact ⟨rfl, by rw [MV.out]⟩
                  · cases tr : decide (x.tries ≤ y.tries)
                    · have MV := Lib.hid (show P.mayMove x y = false from by simp [P.mayMove, o1, p2, p3, tr, of_decide_eq_false tr])
                      go_wp2_with fail
                      go_meet
                      exact ⟨rfl, by rw [MV.out]⟩
                    · have MV := Lib.hid (show P.mayMove x y = true from by simp [P.mayMove, o1, p2, p3, of_decide_eq_true tr])
                      go_wp2_with fail
                      go_meet
                      exact ⟨rfl, by rw [MV.out]⟩
                · cases tr : decide (x.tries ≤ y.tries)
                  · have MV := Lib.hid (show P.mayMove x y = false from by simp [P.mayMove, o1, p2, tr, of_decide_eq_false tr])
                    go_wp2_with fail
                    go_meet
                    exact ⟨rfl, by rw [MV.out]⟩
                  · have MV := Lib.hid (show P.mayMove x y = true from by simp [P.mayMove, o1, p2, of_decide_eq_true tr])
                    go_wp2_with fail
                    go_meet
                    exact ⟨rfl, by rw [MV.out]⟩
            case rest =>
              obtain ⟨rfl, rfl⟩ := hcut
              cases n1 : (x.name.toList == y.name.toList)
              · have n2 := ne_of n1
                have HE := Lib.hid (show P.mayLegs la lb = false from by rw [← HM.out, MS.out, P.mayLeg_eq2]; simp [n1])
                go_wp2
                go_ret
                rw [HE.out]
                exact ⟨rfl, BB.out.trans (HB6.out.mono (by omega))⟩
              · have n2 := ne_of n1
                cases s1 : (x.status == y.status)
                · have s2 := ne_of s1
                  cases mv : P.mayMove x y
                  · have HE := Lib.hid (show P.mayLegs la lb = false from by rw [← HM.out, MS.out, P.mayLeg_eq2]; simp [n1, s1, mv])
                    go_wp2
                    go_ret
                    rw [HE.out]
                    exact ⟨rfl, BB.out.trans (HB6.out.mono (by omega))⟩
                  · have HE := Lib.hid (show P.mayLegs (la.drop (k + 1)) (lb.drop (k + 1)) = P.mayLegs la lb from by rw [← HM.out, MS.out, P.mayLeg_eq2]; simp [n1, mv])
                    go_wp2
                    go_roundw
                    case rel => exact ⟨k + 1, by omega, by go_num, HE.out, HB6.out⟩
                    case measure => simp [intOf]; omega
                · have s2 := ne_of s1
                  have HE := Lib.hid (show P.mayLegs (la.drop (k + 1)) (lb.drop (k + 1)) = P.mayLegs la lb from by rw [← HM.out, MS.out, P.mayLeg_eq2]; simp [n1, s1])
                  go_wp2
                  go_roundw
                  case rel => exact ⟨k + 1, by omega, by go_num, HE.out, HB6.out⟩
                  case measure => simp [intOf]; omega
          · have v1 : decide ((k : Int) < (m : Int)) = false := by simp; omega
            have HE := Lib.hid (show P.mayLegs la lb = true from by
              rw [← HM.out, List.drop_eq_nil_of_le (by rw [HA.out.len]; omega), List.drop_eq_nil_of_le (by rw [HBB.out.len]; omega)]
              rfl)
            go_wp2
            go_ret
            rw [HE.out]
            exact ⟨rfl, BW.out⟩
      · have u8 : ((m : Int) != (mb : Int)) = true := by rw [bne_iff_ne]; omega
        rw [P.mayLegs_len2 (by rw [HA.out.len, HBB.out.len]; exact hmm)]
        clear hmm
        go_enter Try.func20, Try.ntmps20
        go_wp2
        go_ret
        exact ⟨rfl, BB.out⟩
  all_goals
    rw [hf]
    clear hf
    go_enter Try.func20, Try.ntmps20
  · have u1 := ne_of t1
    go_wp2
    go_ret
    exact ⟨rfl, BB.out⟩
  · have u1 := ne_of t1
    have u2 := ne_of t2
    go_wp2
    go_ret
    exact ⟨rfl, BB.out⟩
  · have u1 := ne_of t1
    have u2 := ne_of t2
    have u3 := ne_of t3
    go_wp2
    go_ret
    exact ⟨rfl, BB.out⟩
  · have u1 := ne_of t1
    have u2 := ne_of t2
    have u3 := ne_of t3
    have u4 := ne_of t4
    go_wp2
    go_ret
    exact ⟨rfl, BB.out⟩
end Go.Proofs.Ytjbhlojfmcldjab
