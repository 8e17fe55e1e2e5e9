/- Parts, joined. -/
import Derived.Test.YtlbdpcokddpjpaaGreatDoorR2
import Derived.Test.YtlbdpcokddpjpaaGreatDoorR1
import Derived.Test.YtlbdpcokddpjpaaGreatDoorD5
/- The reference's disk: what Sync, Remove return. -/
namespace Go.Proofs.YtlbdpcokddpjpaaGreatDoor
set_option linter.unusedVariables false
open Go Go.RowKit Go.BigFrame
section
variable {w w' : World} {B g : Nat} {r : Rf.Disk}
set_option maxRecDepth 100000 in
set_option maxHeartbeats 2000000 in
theorem refSync_any (w : World) (h : RefAt w B g r) (hB : B ≤ w.heap.size) (hn : r.files.length ≤ 100000) (x : ByteArray) (hx : x.size ≤ 9223372036854775807) (hf : ∀ p ∈ r.files, p.2.data.size ≤ 1048576) :
    Calls Tryz.prog 40 #[.pointer (some ⟨g, 0, none⟩), .string x] w fun e w' => e = .returned (.int .i64 (Rf.sync r x).1) ∧ RefAt w' B g (Rf.sync r x).2 ∧ Tu B refT w w' := by
  have KG := Lib.hid (refGuard_any w h x hx)
  have KA := Lib.hid (refAt_any w h x hn)
  have KB := Lib.hid (refBurn_any w h)
  have HR := Lib.hid h
  have HC := Lib.hid (Rf.idx_cases r.files x)
  have HV := Lib.hid (show (Dk.asked true [x] ≠ 0 → Rf.sync r x = (Dk.asked true [x], r)) ∧ (Dk.asked true [x] = 0 → (Dk.get r.files x = none → Rf.sync r x = (22, r)) ∧ ∀ f, Dk.get r.files x = some f → Rf.sync r x = (0, { r with files := Rf.updAt r.files x (x, { f with synced := f.data.size }) })) from
    ⟨fun h => by unfold Rf.sync; rw [if_pos h], fun h => ⟨fun h2 => by unfold Rf.sync; rw [if_neg (by rw [h]; simp), h2], fun f h2 => by unfold Rf.sync; rw [if_neg (by rw [h]; simp), h2]⟩⟩)
  have HF := Lib.hid hf
  obtain ⟨h0, v, off, cut, flip, acts, hk, rfl, hl⟩ := h
  have c := fun i => hk.cell i
  obtain ⟨A, cap, rfl⟩ := hl.form
  have HL := Lib.hid hl
  clear hk hl hf
  generalize Rf.sync r x = res at *
  generalize Dk.asked true [x] = q at *
  go_enter Tryz.func40, Tryz.ntmps40
  go_wp2_with fail
  refine KG.out.mono ?_
  rintro e w2 ⟨rfl, rfl⟩
  go_wp2_with fail
  refine KA.out.mono ?_
  rintro e w3 ⟨rfl, rfl⟩
  by_cases h1 : q = 0
  · subst h1
    rcases HC.out with ⟨e1, e2⟩ | ⟨k, f, e1, e2, e3⟩
    · have HV2 := Lib.hid ((HV.out.2 (by trivial)).1 e2)
      rw [e1]
      clear HC e1 e2
      go_wp2_with fail
      go_ret
      rw [HV2.out]
      exact ⟨rfl, HR.out, Tu.refl _ _ _⟩
    · have HV4 := Lib.hid ((HV.out.2 (by trivial)).2 f e3)
      have HU := Lib.hid (Rf.updAt_of e1 (x, { f with synced := f.data.size }))
      have HE2 := Lib.hid e2
      have hfs := HF.out _ (List.mem_of_getElem? e2)
      simp only at hfs
      rw [e1]
      have hkl := (List.getElem?_eq_some_iff.1 e2).1
      clear HC e1 e2 e3 HV
      go_wp2_with fail
      refine KB.out.mono ?_
      rintro e w4 ⟨rfl, hr4, ht4⟩
      have HT4 := Lib.hid ht4
      have HR4 := Lib.hid hr4
      clear ht4 KA KB KG HR c hr4 HL
      obtain ⟨h04, v4, off4, cut4, flip4, acts4, hk4, rfl, hl4⟩ := HR4.out
      obtain ⟨b4, cap4, rfl, hBb4, hb4, c0, c1, c2, ⟨cur4, hcur4⟩, hcap4⟩ := hl4.in_ HE2.out
      simp only at c0 c1 c2
      have c4 := fun i => hk4.cell i
      have HK4 := Lib.hid hk4
      have HL4 := Lib.hid hl4
      have HC4 := Lib.hid (show Blk w4 b4 82 cur4 from hcur4)
      clear hk4 hl4 hcur4
      go_wp2_with fail
      refine wp_region_free 14 [] Stays (fun _ => none) (by kernel_rfl) (by kernel_rfl) Stays.refl (by simp) (Stays.draw _) Stays.trans (fun j φ v x y hB => by cases hB) ?_
      apply wpFree_pure rfl rfl
      · intro vs wx hk K hK
        go_simp
        exact hK _ (Stays.refl _)
      intro KK hKK
      go_simp
      refine hKK _ ?_
      clear hKK KK
      apply wpFree_pure rfl rfl
      · intro vs wx hk K hK
        go_simp
        exact hK _ (Stays.refl _)
      intro KK hKK
      go_simp
      refine hKK _ ?_
      clear hKK KK
      apply wpFree_pure rfl rfl
      · intro vs wx hk K hK
        go_simp
        exact hK _ (Stays.refl _)
      intro KK hKK
      go_simp
      refine hKK _ ?_
      clear hKK KK
      apply wpFree_pure rfl rfl
      · intro vs wx hk K hK
        have c4 := fun i => (HK4.out.stays hk.1).cell i
        go_simp
        exact hK _ (Stays.refl _)
      intro KK hKK
      go_simp
      refine hKK _ ?_
      clear hKK KK
      apply wpFree_pure rfl rfl
      · intro vs wx hk K hK
        go_simp
        exact hK _ (Stays.refl _)
      intro KK hKK
      go_simp
      refine hKK _ ?_
      clear hKK KK
      apply wpFree_pure rfl rfl
      · intro vs wx hk K hK
        go_simp
        exact hK _ (Stays.refl _)
      intro KK hKK
      go_simp
      refine hKK _ ?_
      clear hKK KK
      apply wpFree_pure rfl rfl
      · intro vs wx hk K hK
        go_simp
        exact hK _ (Stays.refl _)
      intro KK hKK
      go_simp
      refine hKK _ ?_
      clear hKK KK
      apply wpFree_pure rfl rfl
      · intro vs wx hk K hK
        go_simp
        exact hK _ (Stays.refl _)
      intro KK hKK
      go_simp
      refine hKK _ ?_
      clear hKK KK
      apply wpFree_pure rfl rfl
      · intro vs wx hk K hK
        have c4 := fun i => (HK4.out.stays hk.1).cell i
        go_simp
        exact hK _ (Stays.refl _)
      intro KK hKK
      go_simp
      refine hKK _ ?_
      clear hKK KK
      apply wpFree_pure rfl rfl
      · intro vs wx hk K hK
        go_simp
        exact hK _ (Stays.refl _)
      intro KK hKK
      go_simp
      refine hKK _ ?_
      clear hKK KK
      apply wpFree_pure rfl rfl
      · intro vs wx hk K hK
        go_simp
        exact hK _ (Stays.refl _)
      intro KK hKK
      go_simp
      refine hKK _ ?_
      clear hKK KK
      apply wpFree_pure rfl rfl
      · intro vs wx hk K hK
        go_simp
        exact hK _ (Stays.refl _)
      intro KK hKK
      go_simp
      refine hKK _ ?_
      clear hKK KK
      apply wpFree_pure rfl rfl
      · intro vs wx hk K hK
        have c1' := (hk.1.cell (p := ⟨b4, k * 3 + 1, none⟩) hb4).trans c1
        go_simp
        exact hK _ (Stays.refl _)
      intro KK hKK
      go_simp
      refine hKK _ ?_
      clear hKK KK
      apply wpFree_pure rfl rfl
      · intro vs wx hk K hK
        go_simp
        exact hK _ (Stays.refl _)
      intro KK hKK
      go_simp
      refine hKK _ ?_
      clear hKK KK
      refine wpFree_nil ?_
      intro vs w5 hs5 _
      intro KK hKK
      simp only [List.drop_succ_cons, List.drop_zero]
      have hk5 := HK4.out.stays hs5
      have hc5 := HC4.out.stays hs5
      have H5 := Lib.hid (refCell (p' := (x, { f with synced := f.data.size })) (u := .int .i64 (f.data.size : Int)) h04 hk5 (HL4.out.stays hs5) HE2.out (show 2 < 3 by omega) rfl)
      have c5 := (hs5.cell (p := ⟨b4, k * 3 + 2, none⟩) hb4).trans c2
      have f5 := fun i => hc5.frozen i
      have HT5 := Lib.hid (HT4.out.stays hs5)
      clear hs5 hk5 hc5 HT4 HK4 HL4 HC4 c4 c0 c1 c2
      go_wp2_with fail
      go_ret
      rw [HV4.out]
      refine ⟨rfl, ?_, HT5.out.trans H5.out.2⟩
      simp only
      rw [HU.out]
      exact H5.out.1
  · have HV1 := Lib.hid (HV.out.1 h1)
    have h1' : (q != 0) = true := by simpa using h1
    go_wp2_with fail
    go_ret
    rw [HV1.out]
    exact ⟨rfl, HR.out, Tu.refl _ _ _⟩
set_option maxRecDepth 100000 in
set_option maxHeartbeats 2000000 in
theorem refRemove_any (w : World) (h : RefAt w B g r) (hB : B ≤ w.heap.size) (hn : r.files.length ≤ 100000) (x : ByteArray) (hx : x.size ≤ 9223372036854775807) :
    Calls Tryz.prog 37 #[.pointer (some ⟨g, 0, none⟩), .string x] w fun e w' => e = .returned (.int .i64 (Rf.remove r x).1) ∧ RefAt w' B g (Rf.remove r x).2 ∧ Tu B refT w w' := by
  have KG := Lib.hid (refGuard_any w h x hx)
  have KA := Lib.hid (refAt_any w h x hn)
  have KB := Lib.hid (refBurn_any w h)
  have HR := Lib.hid h
  have HC := Lib.hid (Rf.idx_cases r.files x)
  have HV := Lib.hid (show (Dk.asked true [x] ≠ 0 → Rf.remove r x = (Dk.asked true [x], r)) ∧ (Dk.asked true [x] = 0 → (Dk.get r.files x = none → Rf.remove r x = (22, r)) ∧ ∀ f, Dk.get r.files x = some f → Rf.remove r x = (0, { r with files := Rf.erase r.files x })) from
    ⟨fun h => by unfold Rf.remove; rw [if_pos h], fun h => ⟨fun h2 => by unfold Rf.remove; rw [if_neg (by rw [h]; simp), h2], fun f h2 => by unfold Rf.remove; rw [if_neg (by rw [h]; simp), h2]⟩⟩)
  clear h
  generalize Rf.remove r x = res at *
  generalize Dk.asked true [x] = q at *
  go_enter Tryz.func37, Tryz.ntmps37
  go_wp2_with fail
  refine KG.out.mono ?_
  rintro e w2 ⟨rfl, rfl⟩
  go_wp2_with fail
  refine KA.out.mono ?_
  rintro e w3 ⟨rfl, rfl⟩
  by_cases h1 : q = 0
  · subst h1
    rcases HC.out with ⟨e1, e2⟩ | ⟨k, f, e1, e2, e3⟩
    · have HV2 := Lib.hid ((HV.out.2 (by trivial)).1 e2)
      rw [e1]
      clear HC e1 e2
      go_wp2_with fail
      go_ret
      rw [HV2.out]
      exact ⟨rfl, HR.out, Tu.refl _ _ _⟩
    · have HV4 := Lib.hid ((HV.out.2 (by trivial)).2 f e3)
      have HU := Lib.hid (Rf.erase_of e1)
      rw [e1]
      have hkl := (List.getElem?_eq_some_iff.1 e2).1
      have HKL := Lib.hid hkl
      clear HC e1 e2 e3 HV
      go_wp2_with fail
      refine KB.out.mono ?_
      rintro e w4 ⟨rfl, hr4, ht4⟩
      have HT4 := Lib.hid ht4
      have KT := Lib.hid (refTake_any w4 hr4 (Nat.le_trans hB ht4.size) k HKL.out hn)
      clear ht4 hr4 KA KB KG HR
      go_wp2_with fail
      refine KT.out.mono ?_
      rintro e w5 ⟨rfl, hr5, ht5⟩
      have HR5 := Lib.hid hr5
      have HT5 := Lib.hid (HT4.out.trans ht5)
      clear hr5 ht5
      go_wp2_with fail
      go_ret
      rw [HV4.out]
      refine ⟨rfl, ?_, HT5.out⟩
      simp only
      rw [HU.out]
      exact HR5.out
  · have HV1 := Lib.hid (HV.out.1 h1)
    have h1' : (q != 0) = true := by simpa using h1
    go_wp2_with fail
    go_ret
    rw [HV1.out]
    exact ⟨rfl, HR.out, Tu.refl _ _ _⟩
end
end Go.Proofs.YtlbdpcokddpjpaaGreatDoor

/- The reference's disk: what Rename returns. -/
namespace Go.Proofs.YtlbdpcokddpjpaaGreatDoor
set_option linter.unusedVariables false
open Go Go.RowKit Go.BigFrame
section
variable {w w' : World} {B g : Nat} {r : Rf.Disk}
theorem get_eraseIdx_ne {l : List Rf.Fl} {k : Nat} {p : Rf.Fl} {x : ByteArray} (hk : l[k]? = some p) (hx : p.1 ≠ x) : Dk.get (l.eraseIdx k) x = Dk.get l x := by
  induction l generalizing k with
  | nil => simp at hk
  | cons q l ih =>
    cases k with
    | zero =>
      simp only [List.getElem?_cons_zero, Option.some.injEq] at hk
      subst hk
      rw [List.eraseIdx_cons_zero, Dk.get_cons, if_neg hx]
    | succ k =>
      rw [List.eraseIdx_cons_succ, Dk.get_cons, Dk.get_cons, ih (by simpa using hk)]
theorem get_erase_ne {l : List Rf.Fl} {x y : ByteArray} (h : x ≠ y) : Dk.get (Rf.erase l y) x = Dk.get l x := by
  rcases Rf.idx_cases l y with ⟨e1, _⟩ | ⟨k, f, e1, e2, _⟩
  · rw [Rf.erase_none e1]
  · rw [Rf.erase_of e1]
    exact get_eraseIdx_ne e2 (fun e => h e.symm)
set_option maxRecDepth 100000 in
set_option maxHeartbeats 4000000 in
theorem refRename_any (w : World) (h : RefAt w B g r) (hB : B ≤ w.heap.size) (hn : r.files.length ≤ 100000) (x y : ByteArray) (hx : x.size ≤ 9223372036854775807) (hy : y.size ≤ 9223372036854775807) :
    Calls Tryz.prog 41 #[.pointer (some ⟨g, 0, none⟩), .string x, .string y] w fun e w' => e = .returned (.int .i64 (Rf.rename r x y).1) ∧ RefAt w' B g (Rf.rename r x y).2 ∧ Tu B refT w w' := by
  have KG := Lib.hid (refGuard_any w h x hx)
  have KN := Lib.hid (refIsName_any y w hy)
  have KA := Lib.hid (refAt_any w h x hn)
  have KB := Lib.hid (refBurn_any w h)
  have HR := Lib.hid h
  have HC := Lib.hid (Rf.idx_cases r.files x)
  have HV := Lib.hid (show (Dk.asked true [x] ≠ 0 → Rf.rename r x y = (Dk.asked true [x], r)) ∧ (Dk.asked true [x] = 0 → (Dk.isName y = false → Rf.rename r x y = (21, r)) ∧ (Dk.isName y = true → (Dk.get r.files x = none → Rf.rename r x y = (22, r)) ∧ ∀ f, Dk.get r.files x = some f → Rf.rename r x y = (0, { r with files := Rf.ren r.files x y f }))) from by
    have ey : Dk.asked true [y] = if Dk.isName y = true then 0 else 21 := by unfold Dk.asked; by_cases h : Dk.isName y = true <;> simp [h]
    refine ⟨fun h => by unfold Rf.rename; rw [if_pos h], fun h => ⟨fun h2 => ?_, fun h2 => ⟨fun h3 => ?_, fun f h3 => ?_⟩⟩⟩
    · unfold Rf.rename; rw [if_neg (by rw [h]; simp), if_pos (by rw [ey, h2]; simp)]
    · unfold Rf.rename; rw [if_neg (by rw [h]; simp), if_neg (by rw [ey, h2]; simp), h3]
    · unfold Rf.rename; rw [if_neg (by rw [h]; simp), if_neg (by rw [ey, h2]; simp), h3])
  clear h
  generalize Rf.rename r x y = res at *
  generalize Dk.asked true [x] = q at *
  generalize Dk.isName y = ny at *
  go_enter Tryz.func41, Tryz.ntmps41
  go_wp2_with fail
  refine KG.out.mono ?_
  rintro e w2 ⟨rfl, rfl⟩
  by_cases h1 : q = 0
  · subst h1
    go_wp2_with fail
    refine KN.out.mono ?_
    rintro e w3 ⟨rfl, rfl⟩
    cases ny with
    | false =>
      have HV2 := Lib.hid ((HV.out.2 (by trivial)).1 (by trivial))
      clear HV
      go_wp2_with fail
      go_ret
      rw [HV2.out]
      exact ⟨rfl, HR.out, Tu.refl _ _ _⟩
    | true =>
      have HV1 := Lib.hid ((HV.out.2 (by trivial)).2 (by trivial))
      clear HV
      go_wp2_with fail
      refine KA.out.mono ?_
      rintro e w4 ⟨rfl, rfl⟩
      rcases HC.out with ⟨e1, e2⟩ | ⟨k, f, e1, e2, e3⟩
      · have HV2 := Lib.hid (HV1.out.1 e2)
        rw [e1]
        clear HC e1 e2 HV1
        go_wp2_with fail
        go_ret
        rw [HV2.out]
        exact ⟨rfl, HR.out, Tu.refl _ _ _⟩
      · have HV4 := Lib.hid (HV1.out.2 f e3)
        have HE3 := Lib.hid e3
        rw [e1]
        clear HC e1 e2 e3 HV1
        go_wp2_with fail
        refine KB.out.mono ?_
        rintro e w5 ⟨rfl, hr5, ht5⟩
        have HT5 := Lib.hid ht5
        have HR5 := Lib.hid hr5
        have HB5 := Lib.hid (Nat.le_trans hB ht5.size)
        have KA5 := Lib.hid (refAt_any w5 hr5 y hn)
        have HL1 := Lib.hid (show Rf.ren r.files x y f = Rf.updAt (if x ≠ y then Rf.erase r.files y else r.files) x (y, f) from rfl)
        have HI1 := Lib.hid (show Dk.get (if x ≠ y then Rf.erase r.files y else r.files) x = some f from by
          split
          · rename_i hne; rw [get_erase_ne hne]; exact HE3.out
          · exact HE3.out)
        have HLN := Lib.hid (show (if x ≠ y then Rf.erase r.files y else r.files).length ≤ 100000 from by
          split
          · unfold Rf.erase
            split
            · exact hn
            · exact Nat.le_trans (List.length_eraseIdx_le _ _) hn
          · exact hn)
        have HY := Lib.hid (Rf.idx_cases r.files y)
        have HEY := Lib.hid (show (x ≠ y → Rf.idx r.files y = -1 → (if x ≠ y then Rf.erase r.files y else r.files) = r.files) ∧ (x = y → (if x ≠ y then Rf.erase r.files y else r.files) = r.files) ∧ (∀ j : Nat, x ≠ y → Rf.idx r.files y = (j : Int) → (if x ≠ y then Rf.erase r.files y else r.files) = r.files.eraseIdx j) from
          ⟨fun h1 h2 => by rw [if_pos h1, Rf.erase_none h2], fun h1 => by rw [if_neg (by simp [h1])], fun j h1 h2 => by rw [if_pos h1, Rf.erase_of h2]⟩)
        generalize (if x ≠ y then Rf.erase r.files y else r.files) = L1 at *
        clear ht5 hr5 KA KB KG KN HR
        go_upto_region 10 with fail
        go_cut [38] (fun v wx => wx = w5 ∧ v = .bool (decide (x ≠ y) && decide (0 ≤ Rf.idx r.files y)))
        case first =>
          cases hxy : (x.toList == y.toList) with
          | true =>
            have he : x = y := by rw [toList_beq] at hxy; exact of_decide_eq_true hxy
            go_wp2_with fail
            go_meet
            exact ⟨rfl, by simp [he]⟩
          | false =>
            have he : x ≠ y := by rw [toList_beq] at hxy; exact of_decide_eq_false hxy
            have HXY := Lib.hid he
            clear he
            go_wp2_with fail
            refine KA5.out.mono ?_
            rintro e w6 ⟨rfl, rfl⟩
            go_wp2_with fail
            go_meet
            exact ⟨rfl, by simp [HXY.out]⟩
        case rest =>
          obtain ⟨rfl, rfl⟩ := hcut
          go_upto_if 38 with fail
          go_cut [] (fun wy => RefAt wy B g ⟨L1, r.left⟩ ∧ Tu B refT w4 wy)
          case first =>
            by_cases hxy : x = y
            · have hd : (decide (x ≠ y)) = false := by simp [hxy]
              rw [hd, Bool.false_and]
              have HQ := Lib.hid (HEY.out.2.1 hxy)
              clear hxy hd HEY HY
              go_wp2_with fail
              go_meet
              rw [HQ.out]
              exact ⟨HR5.out, HT5.out⟩
            · have hd : (decide (x ≠ y)) = true := by simp [hxy]
              rw [hd, Bool.true_and]
              rcases HY.out with ⟨e1, e2⟩ | ⟨k2, f2, e1, e2, e3⟩
              · have hq : decide (0 ≤ Rf.idx r.files y) = false := by rw [e1]; rfl
                rw [hq]
                have HQ := Lib.hid (HEY.out.1 hxy e1)
                clear hxy hd HEY HY e1 e2 hq
                go_wp2_with fail
                go_meet
                rw [HQ.out]
                exact ⟨HR5.out, HT5.out⟩
              · have hq : decide (0 ≤ Rf.idx r.files y) = true := by rw [e1]; simp
                rw [hq]
                have HQ := Lib.hid (HEY.out.2.2 k2 hxy e1)
                have KT := Lib.hid (refTake_any _ HR5.out HB5.out k2 (List.getElem?_eq_some_iff.1 e2).1 hn)
                have KA6 := KA5.out
                rw [e1] at KA6
                have KA6h := Lib.hid KA6
                clear hxy hd HEY HY e1 e2 e3 KA6 KA5 hq
                go_wp2_with fail
                refine KA6h.out.mono ?_
                rintro e w6 ⟨rfl, rfl⟩
                go_wp2_with fail
                refine KT.out.mono ?_
                rintro e w7 ⟨rfl, hr7, ht7⟩
                go_wp2_with fail
                go_meet
                rw [HQ.out]
                exact ⟨hr7, HT5.out.trans ht7⟩
          case rest =>
            obtain ⟨hr6, ht6⟩ := hcut
            have HR6 := Lib.hid hr6
            have HT6 := Lib.hid ht6
            clear hr6 ht6 HR5 HT5 HB5 KA5 HY HEY
            rcases Rf.idx_cases L1 x with ⟨e1, e2⟩ | ⟨k1, f1, e1, e2, e3⟩
            · rw [HI1.out] at e2; cases e2
            · rw [HI1.out] at e3
              cases e3
              have HU := Lib.hid (Rf.updAt_of e1 (y, f))
              have HE2 := Lib.hid e2
              have HE1 := Lib.hid e1
              obtain ⟨h04, v4, off4, cut4, flip4, acts4, hk4, rfl, hl4⟩ := HR6.out
              simp only at hk4 hl4
              obtain ⟨b4, cap4, rfl, hBb4, hb4, c0, c1, c2, ⟨cur4, hcur4⟩, hcap4⟩ := hl4.in_ HE2.out
              simp only at c0 c1 c2
              have HK4 := Lib.hid hk4
              have HL4 := Lib.hid hl4
              have hkl := (List.getElem?_eq_some_iff.1 e2).1
              have HC4 := Lib.hid (show Blk _ b4 82 cur4 from hcur4)
              clear hk4 hl4 hcur4 e1 e2
              have KA8 := refAt_any _ HR6.out x HLN.out
              simp only at KA8
              rw [HE1.out] at KA8
              have KA8h := Lib.hid KA8
              clear KA8
              go_wp2_with fail
              refine wp_region_free 8 [] Stays (fun _ => none) (by kernel_rfl) (by kernel_rfl) Stays.refl (by simp) (Stays.draw _) Stays.trans (fun j φ v x y hB => by cases hB) ?_
              apply wpFree_pure rfl rfl
              · intro vs wx hk K hK
                go_simp
                exact hK _ (Stays.refl _)
              intro KK hKK
              go_simp
              refine hKK _ ?_
              clear hKK KK
              apply wpFree_pure rfl rfl
              · intro vs wx hk K hK
                go_simp
                exact hK _ (Stays.refl _)
              intro KK hKK
              go_simp
              refine hKK _ ?_
              clear hKK KK
              apply wpFree_pure rfl rfl
              · intro vs wx hk K hK
                go_simp
                exact hK _ (Stays.refl _)
              intro KK hKK
              go_simp
              refine hKK _ ?_
              clear hKK KK
              apply wpFree_pure rfl rfl
              · intro vs wx hk K hK
                have c4 := fun i => (HK4.out.stays hk.1).cell i
                go_simp
                exact hK _ (Stays.refl _)
              intro KK hKK
              go_simp
              refine hKK _ ?_
              clear hKK KK
              apply wpFree_pure rfl rfl
              · intro vs wx hk K hK
                go_simp
                exact hK _ (Stays.refl _)
              intro KK hKK
              go_simp
              refine hKK _ ?_
              clear hKK KK
              apply wpFree_pure rfl rfl
              · intro vs wx hk K hK
                go_simp
                exact hK _ (Stays.refl _)
              intro KK hKK
              go_simp
              refine hKK _ ?_
              clear hKK KK
              apply wpFree_pure rfl rfl
              · intro vs wx hk K hK
                have KA9 := refAt_any _ (HR6.out.stays hk.1) x HLN.out
                simp only at KA9
                rw [HE1.out] at KA9
                go_simp
                first
                  | exact hK _ (Stays.refl _)
                  | exact Calls.free hK (KA9.mono (fun e w' ⟨h1, h2⟩ => ⟨h1, h2 ▸ Stays.refl _⟩))
              intro KK hKK
              go_simp
              refine hKK _ ?_
              clear hKK KK
              apply wpFree_pure rfl rfl
              · intro vs wx hk K hK
                go_simp
                exact hK _ (Stays.refl _)
              intro KK hKK
              go_simp
              refine hKK _ ?_
              clear hKK KK
              refine wpFree_nil ?_
              intro vs w5 hs5 _
              intro KK hKK
              simp only [List.drop_succ_cons, List.drop_zero]
              have hk5 := HK4.out.stays hs5
              have hc5 := HC4.out.stays hs5
              have H5 := Lib.hid (refCell (p' := (y, f)) (u := .string y) h04 hk5 (HL4.out.stays hs5) HE2.out (show 0 < 3 by omega) rfl)
              have c5 := (hs5.cell (p := ⟨b4, k1 * 3, none⟩) hb4).trans c0
              have f5 := fun i => hc5.frozen i
              have HT7 := Lib.hid (HT6.out.stays hs5)
              clear hs5 hk5 hc5 HK4 HL4 HC4 c0 c1 c2 HR6 HT6
              go_wp2_with fail
              go_ret
              rw [HV4.out]
              refine ⟨rfl, ?_, HT7.out.trans H5.out.2⟩
              simp only
              rw [HL1.out, HU.out]
              exact H5.out.1
  · have HV1 := Lib.hid (HV.out.1 h1)
    have h1' : (q == 0) = false := by simpa using h1
    have h1'' : (q != 0) = true := by simpa using h1
    go_wp2_with fail
    go_ret
    rw [HV1.out]
    exact ⟨rfl, HR.out, Tu.refl _ _ _⟩
end
end Go.Proofs.YtlbdpcokddpjpaaGreatDoor

/- The reference's disk: a file written. -/
namespace Go.Proofs.YtlbdpcokddpjpaaGreatDoor
set_option linter.unusedVariables false
open Go Go.RowKit Go.BigFrame
namespace Rf
/-- What is so of every such disk. -/
structure Fine (n : Nat) (r : Disk) : Prop where
  len : r.files.length ≤ n
  file : ∀ p ∈ r.files, p.2.data.size ≤ 1048576
  left : -1 ≤ r.left ∧ r.left ≤ 9223372036854775807
theorem updAt_mem {l : List Fl} {x : ByteArray} {p q : Fl} (h : q ∈ updAt l x p) : q = p ∨ q ∈ l := by
  unfold updAt at h
  split at h
  · exact .inr h
  · rcases List.mem_or_eq_of_mem_set h with h | h
    · exact .inr h
    · exact .inl h
theorem updAt_len (l : List Fl) (x : ByteArray) (p : Fl) : (updAt l x p).length = l.length := by
  unfold updAt
  split
  · rfl
  · simp
theorem erase_mem {l : List Fl} {x : ByteArray} {q : Fl} (h : q ∈ erase l x) : q ∈ l := by
  unfold erase at h
  split at h
  · exact h
  · exact List.mem_of_mem_eraseIdx h
theorem erase_len (l : List Fl) (x : ByteArray) : (erase l x).length ≤ l.length := by
  unfold erase
  split
  · exact Nat.le_refl _
  · exact List.length_eraseIdx_le _ _
variable {n : Nat} {r : Disk} {x y : ByteArray}
theorem Fine.create (h : Fine n r) (x : ByteArray) : Fine (n + 1) (Rf.create r x).2 := by
  have h' : Fine (n + 1) r := ⟨Nat.le_succ_of_le h.len, h.file, h.left⟩
  unfold Rf.create
  split
  · exact h'
  · split
    · exact h'
    · split
      · exact h'
      · refine ⟨by have := h.len; simp; omega, fun p hp => ?_, h.left⟩
        rcases List.mem_append.1 hp with hp | hp
        · exact h.file p hp
        · simp at hp; subst hp; exact Nat.zero_le _
theorem Fine.append (h : Fine n r) (x y : ByteArray) : Fine n (Rf.append r x y).2 := by
  unfold Rf.append
  split
  · exact h
  · split
    · exact h
    · split
      · exact h
      · split
        · exact h
        · rename_i f _ h1 h2
          refine ⟨by simp only; rw [updAt_len]; exact h.len, fun p hp => ?_, ?_⟩
          · rcases updAt_mem hp with rfl | hp
            · simp only [ByteArray.size_append]; omega
            · exact h.file p hp
          · have := h.left
            simp only
            split <;> omega
theorem get_in {l : List Fl} {f : Dk.File} (h : Dk.get l x = some f) : (x, f) ∈ l := Dk.get_mem h
theorem Fine.sync (h : Fine n r) (x : ByteArray) : Fine n (Rf.sync r x).2 := by
  unfold Rf.sync
  split
  · exact h
  · split
    · exact h
    · rename_i f hf
      refine ⟨by simp only; rw [updAt_len]; exact h.len, fun p hp => ?_, h.left⟩
      rcases updAt_mem hp with rfl | hp
      · exact h.file (x, f) (get_in hf)
      · exact h.file p hp
theorem Fine.remove (h : Fine n r) (x : ByteArray) : Fine n (Rf.remove r x).2 := by
  unfold Rf.remove
  split
  · exact h
  · split
    · exact h
    · exact ⟨Nat.le_trans (erase_len _ _) h.len, fun p hp => h.file p (erase_mem hp), h.left⟩
theorem Fine.rename (h : Fine n r) (x y : ByteArray) : Fine n (Rf.rename r x y).2 := by
  unfold Rf.rename
  split
  · exact h
  · split
    · exact h
    · split
      · exact h
      · rename_i f hf
        refine ⟨?_, fun p hp => ?_, h.left⟩
        · simp only [ren]
          rw [updAt_len]
          split
          · exact Nat.le_trans (erase_len _ _) h.len
          · exact h.len
        · rcases updAt_mem hp with rfl | hp
          · exact h.file (x, f) (get_in hf)
          · split at hp
            · exact h.file p (erase_mem hp)
            · exact h.file p hp
def bes (x : ByteArray) : ByteArray := x ++ ⟨#[46, 116]⟩
/-- What comes of writing bytes into a file of a name. -/
def file (r : Disk) (x y : ByteArray) : Int × Disk :=
  if (read r (Dk.bes x)).2 = 0 ∧ (remove r (Dk.bes x)).1 ≠ 0 then remove r (Dk.bes x) else
  let r1 := if (read r (Dk.bes x)).2 = 0 then (remove r (Dk.bes x)).2 else r
  if (create r1 (Dk.bes x)).1 ≠ 0 then create r1 (Dk.bes x) else
  if (append (create r1 (Dk.bes x)).2 (Dk.bes x) y).1 ≠ 0 then append (create r1 (Dk.bes x)).2 (Dk.bes x) y else
  if (sync (append (create r1 (Dk.bes x)).2 (Dk.bes x) y).2 (Dk.bes x)).1 ≠ 0 then sync (append (create r1 (Dk.bes x)).2 (Dk.bes x) y).2 (Dk.bes x) else
  rename (sync (append (create r1 (Dk.bes x)).2 (Dk.bes x) y).2 (Dk.bes x)).2 (Dk.bes x) x
def fileV (r : Disk) (dir ch : ByteArray) (id : Int) (y : ByteArray) : ByteArray × Int × Disk :=
  if P.putOk id 4 = true then (if (file r (Dk.fname dir ch id) y).1 = 0 then Dk.fname dir ch id else ByteArray.empty, (file r (Dk.fname dir ch id) y).1, (file r (Dk.fname dir ch id) y).2) else (ByteArray.empty, 1, r)
end Rf
set_option maxRecDepth 100000 in
set_option maxHeartbeats 1000000 in
theorem refName_any (w : World) (dir ch : ByteArray) (id : Int) (h1 : -9223372036854775808 ≤ id) (h2 : id ≤ 9223372036854775807) (hd : dir.size + ch.size ≤ 10000) :
    Calls Tryz.prog 36 #[.string dir, .string ch, .int .i64 id] w fun e w' => e = .returned (.string (if P.putOk id 4 = true then Dk.fname dir ch id else ByteArray.empty)) ∧ Below w.heap.size w w' := by
  have KP := Lib.hid (refPut_any id 4 w h1 h2 (by omega) (by omega))
  have HPE := Lib.hid (show P.putE id 4 = if P.putOk id 4 = true then 0 else 1 from rfl)
  have HPS := Lib.hid (show (P.putS id 4).length ≤ 4 from by
    unfold P.putS
    split
    · rw [P.low_length]; decide
    · simp)
  have HN := Lib.hid (show Dk.fname dir ch id = ⟨#[111, 117, 116, 47]⟩ ++ dir ++ ⟨#[47]⟩ ++ ch ++ ⟨#[45]⟩ ++ ⟨(P.hex (P.putS id 4)).toArray⟩ from rfl)
  clear h1 h2
  generalize Dk.fname dir ch id = x at *
  generalize P.putE id 4 = pe at *
  generalize P.putS id 4 = ps at *
  generalize P.putOk id 4 = po at *
  go_enter Tryz.func36, Tryz.ntmps36
  go_wp2_with fail
  refine KP.out.mono ?_
  rintro e w2 ⟨rfl, hb2⟩
  cases po with
  | false =>
    have hpe := HPE.out
    simp only [Bool.false_eq_true, if_false] at hpe
    rw [hpe]
    clear hpe
    go_wp2_with fail
    go_ret
    exact ⟨rfl, hb2⟩
  | true =>
    have hpe := HPE.out
    simp only [if_true] at hpe
    rw [hpe]
    clear hpe
    have KH := Lib.hid (refHex_any ⟨ps.toArray⟩ w2 (by have := HPS.out; show ps.toArray.size ≤ _; rw [List.size_toArray]; omega))
    have HX := Lib.hid (show ∀ s : ByteArray, s = ⟨(P.hex ps).toArray⟩ → ⟨#[111, 117, 116, 47]⟩ ++ dir ++ ⟨#[47]⟩ ++ ch ++ ⟨#[45]⟩ ++ s = x from fun s hs => by rw [hs]; exact HN.out.symm)
    go_wp2_with fail
    refine KH.out.mono ?_
    rintro e w3 ⟨rfl, hb3⟩
    have hx3 := HX.out _ rfl
    have B3 := Lib.hid (bt'' hb2 hb3)
    have hh5 : (P.hex ps).length ≤ 8 := by rw [P.hex_length]; have := HPS.out; omega
    have hh4 : (⟨(P.hex ps).toArray⟩ : ByteArray).size ≤ 8 := by show (P.hex ps).toArray.size ≤ 8; simpa using hh5
    clear hb2 hb3 KH KP
    go_wp2_with fail
    go_ret
    exact ⟨rfl, B3.out⟩
section
variable {w w' : World} {B g n : Nat} {r : Rf.Disk}
theorem Rf.read_ok {r : Rf.Disk} {x : ByteArray} : (Rf.read r x).2 = 0 ∨ (Rf.read r x).2 = 20 ∨ (Rf.read r x).2 = 21 ∨ (Rf.read r x).2 = 22 := by
  unfold Rf.read
  split
  · rcases asked_cases true [x] with h | h | h <;> simp [h]
  · split <;> simp
set_option maxRecDepth 100000 in
set_option maxHeartbeats 4000000 in
theorem refFile_any (w : World) (h : RefAt w B g r) (hB : B ≤ w.heap.size) (hf : Rf.Fine n r) (hn : n ≤ 10000) (dir ch y : ByteArray) (id : Int) (h1 : -9223372036854775808 ≤ id) (h2 : id ≤ 9223372036854775807) (hd : dir.size + ch.size ≤ 10000) (hy : y.size ≤ 1000000) :
    Calls Tryz.prog 11 #[.pointer (some ⟨g, 0, none⟩), .string dir, .string ch, .int .i64 id, .string y] w fun e w' => e = .returned (.tuple #[.string (Rf.fileV r dir ch id y).1, .int .i64 (Rf.fileV r dir ch id y).2.1]) ∧ RefAt w' B g (Rf.fileV r dir ch id y).2.2 ∧ Tu B refT w w' := by
  have HV := Lib.hid (show Rf.fileV r dir ch id y = if P.putOk id 4 = true then (if (Rf.file r (Dk.fname dir ch id) y).1 = 0 then Dk.fname dir ch id else ByteArray.empty, (Rf.file r (Dk.fname dir ch id) y).1, (Rf.file r (Dk.fname dir ch id) y).2) else (ByteArray.empty, 1, r) from rfl)
  have KN := Lib.hid (refName_any w dir ch id h1 h2 hd)
  have HR := Lib.hid h
  have HFI := Lib.hid hf
  have hxs : (Dk.fname dir ch id).size ≤ 100000 := by
    have h4 : (⟨(P.hex (P.putS id 4)).toArray⟩ : ByteArray).size = (P.hex (P.putS id 4)).length := by show (P.hex (P.putS id 4)).toArray.size = _; simp
    have h5 : (P.putS id 4).length ≤ 4 := by
      unfold P.putS
      split
      · rw [P.low_length]; decide
      · simp
    unfold Dk.fname
    simp only [ByteArray.size_append, h4, P.hex_length]
    show 4 + dir.size + 1 + ch.size + 1 + _ ≤ _
    omega
  have hx0 : (Dk.fname dir ch id).size ≠ 0 := by
    unfold Dk.fname
    simp only [ByteArray.size_append]
    show 4 + dir.size + 1 + ch.size + 1 + _ ≠ 0
    omega
  have HX0 := Lib.hid hx0
  clear h hf h1 h2 hx0
  generalize Rf.fileV r dir ch id y = res at *
  generalize Dk.fname dir ch id = x at *
  generalize P.putOk id 4 = po at *
  go_enter Tryz.func11, Tryz.ntmps11
  go_wp2_with fail
  refine KN.out.mono ?_
  rintro e w2 ⟨rfl, hb2⟩
  have B2 := Lib.hid hb2
  have HR2 := Lib.hid (HR.out.below hb2)
  clear hb2 KN
  cases po with
  | false =>
    have HV2 := HV.out
    simp only [Bool.false_eq_true, if_false] at HV2 ⊢
    go_wp2_with fail
    refine bodyPost_ret (results_tmp2 rfl _ _ _) rfl ?_
    rw [HV2]
    exact ⟨rfl, HR2.out, Tu.of_below B2.out⟩
  | true =>
    have HV2 := Lib.hid (HV.out.trans (if_pos rfl))
    simp only [if_true]
    have hxe : (x.toList.isEmpty) = false := by
      cases hl : x.toList with
      | nil => rw [ByteArray.toList_eq] at hl; exact absurd (show x.size = 0 by have := congrArg List.length hl; simpa using this) HX0.out
      | cons _ _ => rfl
    have KR := Lib.hid (refRead_any w2 HR2.out (Nat.le_trans HFI.out.len (by omega)) (Dk.bes x) (by rw [Dk.bes_size]; omega))
    go_wp2_with fail
    refine KR.out.mono ?_
    rintro e w3 ⟨rfl, rfl⟩
    have HFL := Lib.hid (show Rf.file r x y =
        if (Rf.read r (Dk.bes x)).2 = 0 ∧ (Rf.remove r (Dk.bes x)).1 ≠ 0 then Rf.remove r (Dk.bes x) else
        if (Rf.create (if (Rf.read r (Dk.bes x)).2 = 0 then (Rf.remove r (Dk.bes x)).2 else r) (Dk.bes x)).1 ≠ 0 then Rf.create (if (Rf.read r (Dk.bes x)).2 = 0 then (Rf.remove r (Dk.bes x)).2 else r) (Dk.bes x) else
        if (Rf.append (Rf.create (if (Rf.read r (Dk.bes x)).2 = 0 then (Rf.remove r (Dk.bes x)).2 else r) (Dk.bes x)).2 (Dk.bes x) y).1 ≠ 0 then Rf.append (Rf.create (if (Rf.read r (Dk.bes x)).2 = 0 then (Rf.remove r (Dk.bes x)).2 else r) (Dk.bes x)).2 (Dk.bes x) y else
        if (Rf.sync (Rf.append (Rf.create (if (Rf.read r (Dk.bes x)).2 = 0 then (Rf.remove r (Dk.bes x)).2 else r) (Dk.bes x)).2 (Dk.bes x) y).2 (Dk.bes x)).1 ≠ 0 then Rf.sync (Rf.append (Rf.create (if (Rf.read r (Dk.bes x)).2 = 0 then (Rf.remove r (Dk.bes x)).2 else r) (Dk.bes x)).2 (Dk.bes x) y).2 (Dk.bes x) else
        Rf.rename (Rf.sync (Rf.append (Rf.create (if (Rf.read r (Dk.bes x)).2 = 0 then (Rf.remove r (Dk.bes x)).2 else r) (Dk.bes x)).2 (Dk.bes x) y).2 (Dk.bes x)).2 (Dk.bes x) x from rfl)
    generalize Rf.file r x y = fl at *
    have hbs : (Dk.bes x).size ≤ 9223372036854775807 := by rw [Dk.bes_size]; omega
    have HBS := Lib.hid hbs
    have B2B := Lib.hid (Nat.le_trans hB B2.out.size)
    have KM := Lib.hid (refRemove_any w3 HR2.out B2B.out (Nat.le_trans HFI.out.len (by omega)) (Dk.bes x) HBS.out)
    have FM := Lib.hid (HFI.out.remove (Dk.bes x))
    have T2 := Lib.hid (show Tu B refT w w3 from Tu.of_below B2.out)
    clear KR hbs B2
    generalize hrd : Rf.read r (Dk.bes x) = rd at *
    obtain ⟨rs, re⟩ := rd
    generalize Rf.remove r (Dk.bes x) = rm at *
    obtain ⟨me, md⟩ := rm
    simp only at HFL
    clear hrd
    go_upto_if 31 with fail
    go_cut [] (fun wx => (re = 0 ∧ me ≠ 0) = False ∧ RefAt wx B g (if re = 0 then md else r) ∧ Tu B refT w wx)
    case first =>
      by_cases hre : re = 0
      · subst hre
        go_wp2_with fail
        refine KM.out.mono ?_
        rintro e w4 ⟨rfl, hr4, ht4⟩
        have HR4 := Lib.hid hr4
        have HT4 := Lib.hid (T2.out.trans ht4)
        clear hr4 ht4 KM
        by_cases hme : me = 0
        · subst hme
          go_wp2_with fail
          go_meet
          exact ⟨by simp, by simpa using HR4.out, HT4.out⟩
        · have HF4 := Lib.hid (HFL.out.trans (if_pos ⟨by trivial, hme⟩))
          have hne' : (me != 0) = true := by simpa using hme
          have heq' : (me == 0) = false := by simpa using hme
          have HNE := Lib.hid hme
          go_wp2_with fail
          refine bodyPost_ret (results_tmp2 rfl _ _ _) rfl ?_
          rw [HV2.out, HF4.out]
          refine ⟨?_, HR4.out, HT4.out⟩
          simp only
          rw [if_neg HNE.out]
          rfl
      · have hre' : (re == 0) = false := by simpa using hre
        have HRE := Lib.hid hre
        go_wp2_with fail
        go_meet
        refine ⟨by simp [HRE.out], ?_, T2.out⟩
        rw [if_neg HRE.out]
        exact HR2.out
    case rest =>
      obtain ⟨hc, hr5, ht5⟩ := hcut
      have HF5 := Lib.hid (HFL.out.trans (if_neg (by rw [hc]; simp)))
      have FI5 := Lib.hid (show Rf.Fine n (if re = 0 then md else r) from by
        split
        · exact FM.out
        · exact HFI.out)
      have HR5 := Lib.hid hr5
      have HT5 := Lib.hid ht5
      generalize (if re = 0 then md else r) = r5 at *
      have HB5 := Lib.hid (Nat.le_trans hB HT5.out.size)
      have K5 := Lib.hid (refCreate_any _ HR5.out HB5.out (Nat.le_trans FI5.out.len (by omega)) (Dk.bes x) HBS.out)
      have F5 := Lib.hid (FI5.out.create (Dk.bes x))
      generalize Rf.create r5 (Dk.bes x) = r6 at *
      obtain ⟨e6, d6⟩ := r6
      simp only at HF5 K5 F5
      clear hc hr5 ht5 HFL HR5 FI5 FM HFI KM HR2 T2 HR
      go_wp2_with fail
      refine K5.out.mono ?_
      rintro e w6 ⟨rfl, hr6, ht6⟩
      have HR6 := Lib.hid hr6
      have HT6 := Lib.hid (HT5.out.trans ht6)
      have HB6 := Lib.hid (Nat.le_trans hB HT6.out.size)
      clear hr6 ht6 K5
      by_cases h6 : e6 = 0
      · subst h6
        have HF6 := Lib.hid (HF5.out.trans (if_neg (by simp)))
        have K6 := Lib.hid (refAppend_any _ HR6.out HB6.out (Nat.le_trans F5.out.len (by omega)) (Dk.bes x) y HBS.out (by omega) F5.out.file F5.out.left.2)
        have F6 := Lib.hid (F5.out.append (Dk.bes x) y)
        generalize Rf.append d6 (Dk.bes x) y = r7 at *
        obtain ⟨e7, d7⟩ := r7
        simp only at HF6 K6 F6
        clear HF5
        go_wp2_with fail
        refine K6.out.mono ?_
        rintro e w7 ⟨rfl, hr7, ht7⟩
        have HR7 := Lib.hid hr7
        have HT7 := Lib.hid (HT6.out.trans ht7)
        have HB7 := Lib.hid (Nat.le_trans hB HT7.out.size)
        clear hr7 ht7 K6 HR6 HT6
        by_cases h7 : e7 = 0
        · subst h7
          have HF7 := Lib.hid (HF6.out.trans (if_neg (by simp)))
          have K7 := Lib.hid (refSync_any _ HR7.out HB7.out (Nat.le_trans F6.out.len (by omega)) (Dk.bes x) HBS.out F6.out.file)
          have F7 := Lib.hid (F6.out.sync (Dk.bes x))
          generalize Rf.sync d7 (Dk.bes x) = r8 at *
          obtain ⟨e8, d8⟩ := r8
          simp only at HF7 K7 F7
          clear HF6
          go_wp2_with fail
          refine K7.out.mono ?_
          rintro e w8 ⟨rfl, hr8, ht8⟩
          have HR8 := Lib.hid hr8
          have HT8 := Lib.hid (HT7.out.trans ht8)
          have HB8 := Lib.hid (Nat.le_trans hB HT8.out.size)
          clear hr8 ht8 K7 HR7 HT7
          by_cases h8 : e8 = 0
          · subst h8
            have HF8 := Lib.hid (HF7.out.trans (if_neg (by simp)))
            have K8 := Lib.hid (refRename_any _ HR8.out HB8.out (Nat.le_trans F7.out.len (by omega)) (Dk.bes x) x HBS.out (by omega))
            generalize Rf.rename d8 (Dk.bes x) x = r9 at *
            obtain ⟨e9, d9⟩ := r9
            simp only at HF8 K8
            clear HF7
            go_wp2_with fail
            refine K8.out.mono ?_
            rintro e w9 ⟨rfl, hr9, ht9⟩
            have HR9 := Lib.hid hr9
            have HT9 := Lib.hid (HT8.out.trans ht9)
            clear hr9 ht9 K8 HR8 HT8
            by_cases h9 : e9 = 0
            · subst h9
              go_wp2_with fail
              refine bodyPost_ret (results_tmp2 rfl _ _ _) rfl ?_
              rw [HV2.out, HF8.out]
              exact ⟨rfl, HR9.out, HT9.out⟩
            · skip
              have hne' : (e9 != 0) = true := by simpa using h9
              have heq' : (e9 == 0) = false := by simpa using h9
              have HNE := Lib.hid h9
              go_wp2_with fail
              refine bodyPost_ret (results_tmp2 rfl _ _ _) rfl ?_
              rw [HV2.out, HF8.out]
              refine ⟨?_, HR9.out, HT9.out⟩
              simp only
              rw [if_neg HNE.out]
              rfl
          · have HF8 := Lib.hid (HF7.out.trans (if_pos h8))
            have hne' : (e8 != 0) = true := by simpa using h8
            have heq' : (e8 == 0) = false := by simpa using h8
            have HNE := Lib.hid h8
            go_wp2_with fail
            refine bodyPost_ret (results_tmp2 rfl _ _ _) rfl ?_
            rw [HV2.out, HF8.out]
            refine ⟨?_, HR8.out, HT8.out⟩
            simp only
            rw [if_neg HNE.out]
            rfl
        · have HF7 := Lib.hid (HF6.out.trans (if_pos h7))
          have hne' : (e7 != 0) = true := by simpa using h7
          have heq' : (e7 == 0) = false := by simpa using h7
          have HNE := Lib.hid h7
          go_wp2_with fail
          refine bodyPost_ret (results_tmp2 rfl _ _ _) rfl ?_
          rw [HV2.out, HF7.out]
          refine ⟨?_, HR7.out, HT7.out⟩
          simp only
          rw [if_neg HNE.out]
          rfl
      · have HF6 := Lib.hid (HF5.out.trans (if_pos h6))
        have hne' : (e6 != 0) = true := by simpa using h6
        have heq' : (e6 == 0) = false := by simpa using h6
        have HNE := Lib.hid h6
        go_wp2_with fail
        refine bodyPost_ret (results_tmp2 rfl _ _ _) rfl ?_
        rw [HV2.out, HF6.out]
        refine ⟨?_, HR6.out, HT6.out⟩
        simp only
        rw [if_neg HNE.out]
        rfl
end
end Go.Proofs.YtlbdpcokddpjpaaGreatDoor

/- The reference's lists of texts: Begins, SameTexts; words for texts of the call's own. -/
namespace Go.Proofs.YtlbdpcokddpjpaaGreatDoor
set_option linter.unusedVariables false
open Go Go.RowKit Go.BigFrame
def OwnT (w : World) (B : Nat) (v : Value) (l : List ByteArray) : Prop := w.ownsRow B 9 1 v l.length (l.map Value.string)
theorem infoStr : (Tryz.prog.info? 9).map (fun i => (i.zero, i.size, i.bytes)) = some (some (.string ByteArray.empty), 1, 16) := by kernel_rfl
theorem str_one (l : List ByteArray) : ∀ u ∈ l.map Value.string, u.oneCell' = true := by
  intro u hu
  obtain ⟨p, _, rfl⟩ := List.mem_map.1 hu
  rfl
section
variable {w w' : World} {B C : Nat} {v : Value} {l : List ByteArray}
theorem OwnT.none_ (w : World) (B : Nat) : OwnT w B (.slice none 0 0) [] := ⟨rfl, .inl ⟨rfl, rfl⟩⟩
theorem OwnT.stays (h : OwnT w B v l) (hs : Stays w w') : OwnT w' B v l := by
  obtain ⟨h1, h2⟩ := h
  refine ⟨h1, ?_⟩
  rcases h2 with h2 | ⟨b, cap, cur, hv, hb, hh, r⟩
  · exact .inl h2
  · exact .inr ⟨b, cap, cur, hv, hb, by rw [hs.block b (Array.getElem?_eq_some_iff.1 hh).1]; exact hh, r⟩
theorem OwnT.below (h : OwnT w B v l) (hb : Below w.heap.size w w') : OwnT w' B v l := h.stays hb
theorem OwnT.less (h : OwnT w B v l) (hC : C ≤ B) : OwnT w C v l := by
  obtain ⟨h1, h2⟩ := h
  refine ⟨h1, ?_⟩
  rcases h2 with h2 | ⟨b, cap, cur, hv, hb, r⟩
  · exact .inl h2
  · exact .inr ⟨b, cap, cur, hv, by omega, r⟩
theorem OwnT.form (h : OwnT w B v l) : ∃ A c, v = .slice A l.length c ∧ l.length ≤ c ∧ c ≤ maxLen ∧ (A = none → l.length = 0 ∧ c = 0) ∧ StrsAt w w.heap.size A l.length l := by
  rcases h.2 with ⟨rfl, hn⟩ | ⟨b, cap, cur, hv, hb, hh, h3, h4, h5, h6⟩
  · refine ⟨none, 0, by rw [hn], by omega, by unfold maxLen; omega, fun _ => ⟨hn, rfl⟩, ?_⟩
    rw [List.eq_nil_of_length_eq_zero hn]
    exact Reads.nil
  · refine ⟨_, _, hv, h3, h4, (fun h => by cases h), by simp, fun hn => ⟨_, rfl, (Array.getElem?_eq_some_iff.1 hh).1, fun j u hu => ?_⟩⟩
    have hj : j < l.length := by have := (List.getElem?_eq_some_iff.1 hu).1; simpa using this
    rw [Addr.add_lit, Nat.zero_add, (show Blk w b _ cur from hh).cell, ← Array.getElem?_toList, ← hu, ← h6, List.getElem?_take_of_lt (by omega)]
theorem t_append_none (w : World) (ty : TypeId) : (Builtin.append_ #[33, 33] ty #[.slice none 0 0, .slice none 0 0]).run Tryz.prog w = .ok (.slice none 0 0) w := by
  obtain ⟨i, hi, hz, hs1, hb1⟩ := info_parts infoStr
  simp [Builtin.append_, run_underlying Tryz.underlying33, sizeOf, typeInfo, hi, Builtin.lenOf, Builtin.firstCells]
/-- Texts appended to texts of the call's own. -/
theorem t_append (w : World) (ty : TypeId) (C : Nat) (v : Value) (l : List ByteArray) (h : OwnT w C v l) (ad : Addr) (m c : Nat) (news : List ByteArray) (hl : news.length = m) (hn : ∀ j u, (news.map Value.string)[j]? = some u → w.cell? (ad.add j) = some u)
    (hb : l.length + m ≤ 1099511627777) (hC : C ≤ w.heap.size) : ∃ v' w', (Builtin.append_ #[33, 33] ty #[v, .slice (some ad) m c]).run Tryz.prog w = .ok v' w' ∧ OwnT w' C v' (l ++ news) ∧ Below C w w' ∧ w.grownBy w' v.ownBlock := by
  obtain ⟨i, hi, hz, hs1, hb1⟩ := info_parts infoStr
  obtain ⟨v', w', hr, ho, hg, _, _⟩ := run_append_own_at (P := Tryz.prog) w C 33 ty 9 i _ 1 16 Tryz.underlying33 hi hz hs1 hb1 rfl (by omega) v l.length (l.map Value.string) h ad m c (news.map Value.string) (by simp [hl]) hn (str_one news) (by unfold maxLen; omega) (by omega) hC
  refine ⟨v', w', hr, ?_, (Below.refl _ w).grown hg hC (fun k hk => (World.ownsRow.lt h k hk).1), hg⟩
  unfold OwnT
  rw [List.length_append, List.map_append, hl]
  exact ho
end
theorem add_of_add' (a : Addr) (i j : Nat) : (a.add i).add j = a.add (i + j) := by
  by_cases hi : i = 0
  · subst hi; simp [Addr.add]
  · by_cases hj : j = 0
    · subst hj; simp [Addr.add]
    · simp [Addr.add, hi, hj, Nat.add_assoc]
theorem StrsAt.part {w : World} {B n i m : Nat} {ad : Addr} {l : List ByteArray} (h : StrsAt w B (some ad) n l) (him : i + m ≤ n) : ∀ j u, (((l.drop i).take m).map Value.string)[j]? = some u → w.cell? ((ad.add i).add j) = some u := by
  intro j u hu
  have hlen := h.len
  have hj : j < m := by
    have := (List.getElem?_eq_some_iff.1 hu).1
    simp at this
    omega
  obtain ⟨ad', e, _, hc⟩ := h.2 (by omega)
  cases e
  rw [add_of_add']
  refine hc (i + j) u ?_
  rw [← hu, List.getElem?_map, List.getElem?_map, List.getElem?_take_of_lt hj, List.getElem?_drop]
set_option maxRecDepth 100000 in
theorem refBegins_any (s : ByteArray) (w : World) (hs : s.size ≤ 1000000) : Calls Tryz.prog 48 #[.string s, .string ⟨#[]⟩] w fun e w' => e = .returned (.bool true) ∧ w' = w := by
  have h0 : (⟨#[]⟩ : ByteArray).size = 0 := rfl
  have he : s.extract 0 0 = ⟨#[]⟩ := by
    apply ByteArray.ext
    simp
  go_enter Tryz.func48, Tryz.ntmps48
  go_wp2_with fail
  go_ret
  exact ⟨rfl, rfl⟩
end Go.Proofs.YtlbdpcokddpjpaaGreatDoor
