/- DelimBack: the walk: valid signs are found in the head that has them; signs of which two are the same are none. -/
import Derived.Test.YtefebcibcmjbaabDelimTells
import Derived.Test.YtefebcibcmjbaabFree
namespace Go.Proofs.Ytefebcibcmjbaab
set_option linter.unusedVariables false
open Go.RowKit Go.BigFrame
namespace P
theorem headS_ok (f c r e s : UInt8) (h : valid [f, c, r, e, s] = true) : headS [f, c, r, e, s] = [77, 83, 72, f, c, r, e, s] := by simp [headS, h]
theorem ofOk_head (f c r e s : UInt8) (h : valid [f, c, r, e, s] = true) (m : List UInt8) (hm : m = [] ∨ ∃ m', m = f :: m') : ofOk (77 :: 83 :: 72 :: f :: c :: r :: e :: s :: m) = true := by
  unfold ofOk
  rcases hm with rfl | ⟨m', rfl⟩ <;> simp [h]
theorem ofV_head (f c r e s : UInt8) (h : valid [f, c, r, e, s] = true) (m : List UInt8) (hm : m = [] ∨ ∃ m', m = f :: m') :
    ofV (77 :: 83 :: 72 :: f :: c :: r :: e :: s :: m) 0 = f ∧ ofV (77 :: 83 :: 72 :: f :: c :: r :: e :: s :: m) 1 = c ∧ ofV (77 :: 83 :: 72 :: f :: c :: r :: e :: s :: m) 2 = r ∧ ofV (77 :: 83 :: 72 :: f :: c :: r :: e :: s :: m) 3 = e ∧ ofV (77 :: 83 :: 72 :: f :: c :: r :: e :: s :: m) 4 = s ∧ ofE (77 :: 83 :: 72 :: f :: c :: r :: e :: s :: m) = 0 := by
  unfold ofV ofE
  simp [ofOk_head f c r e s h m hm]
end P
theorem of_headed (t : ByteArray) (f c r e s : UInt8) (h : P.valid [f, c, r, e, s] = true) (m : List UInt8) (hm : m = [] ∨ ∃ m', m = f :: m') (ht : t.data.toList = 77 :: 83 :: 72 :: f :: c :: r :: e :: s :: m) (hs : t.size ≤ maxLen) (w : World) :
    Calls Try.prog 10 #[.string t] w fun x w' => x = .returned (.tuple #[.agg #[.int .u8 (f.toNat : Int), .int .u8 (c.toNat : Int), .int .u8 (r.toNat : Int), .int .u8 (e.toNat : Int), .int .u8 (s.toNat : Int)], .int .i64 0]) ∧ Below w.heap.size w w' := by
  have k := of_any t w hs
  obtain ⟨e0, e1, e2, e3, e4, e5⟩ := P.ofV_head f c r e s h m hm
  rw [ht, e0, e1, e2, e3, e4, e5] at k
  exact k
set_option maxRecDepth 100000 in
set_option maxHeartbeats 4000000 in
theorem delimBack_any (f c r e s : UInt8) (more : ByteArray) (w : World) (hm : more.size ≤ 140737488351232) :
    Calls Try.prog 4 #[.agg #[.int .u8 (f.toNat : Int), .int .u8 (c.toNat : Int), .int .u8 (r.toNat : Int), .int .u8 (e.toNat : Int), .int .u8 (s.toNat : Int)], .string more] w fun x w' => x = .returned (.bool true) ∧ Below w.heap.size w w' := by
  cases hv : P.valid [f, c, r, e, s]
  · have vc := fun W => valid_any f c r e s W
    have hc := fun W => head_any f c r e s W
    rw [hv] at vc
    rw [show P.headS [f, c, r, e, s] = [] from by simp [P.headS, hv]] at hc
    have VC := Lib.hid vc
    have HC := Lib.hid hc
    clear vc hc hv
    go_enter Try.func4, Try.ntmps4
    go_wp2_with fail
    refine (VC.out _).mono ?_
    rintro x w1 ⟨rfl, hb1⟩
    have k1 := (Blk.new w 23 #[.int .u8 (f.toNat : Int), .int .u8 (c.toNat : Int), .int .u8 (r.toNat : Int), .int .u8 (e.toNat : Int), .int .u8 (s.toNat : Int)]).below hb1 (by simp)
    have B1 := Lib.hid (box_below hb1)
    have K1 := Lib.hid k1
    clear hb1 k1
    go_wp2_with fail
    refine (alive6 _).mono ?_
    rintro x w2 ⟨rfl, hb2⟩
    have c2 := fun i => (K1.out.below hb2 K1.out.lt).cell i
    have B2 := Lib.hid (bt B1.out hb2)
    clear hb2
    go_wp2_with fail
    refine (HC.out _).mono ?_
    rintro x w3 ⟨rfl, hb3⟩
    have B3 := Lib.hid (bt B2.out hb3)
    clear hb3 c2
    go_wp2
    go_ret
    exact ⟨rfl, B3.out⟩
  · have vc := fun W => valid_any f c r e s W
    have vt := fun W => valid_any f c r e c W
    have hc := fun W => head_any f c r e s W
    rw [P.headS_ok f c r e s hv] at hc
    rw [hv] at vc
    rw [P.bad_twice (L := [f, c, r, e, c]) (i := 4) (b := 1) (by omega) (by omega) rfl] at vt
    have o1 := fun W => of_headed (⟨#[77, 83, 72, f, c, r, e, s]⟩ ++ ⟨#[f]⟩ ++ more) f c r e s hv (f :: more.data.toList) (Or.inr ⟨_, rfl⟩) (by simp [ByteArray.data_append]) (by unfold maxLen; simp [ByteArray.size_append]; have e1 : (⟨#[77, 83, 72, f, c, r, e, s]⟩ : ByteArray).size = 8 := rfl; have e2 : (⟨#[f]⟩ : ByteArray).size = 1 := rfl; omega) W
    have o2 := fun W => of_headed ⟨#[77, 83, 72, f, c, r, e, s]⟩ f c r e s hv [] (Or.inl rfl) rfl (by unfold maxLen; have e1 : (⟨#[77, 83, 72, f, c, r, e, s]⟩ : ByteArray).size = 8 := rfl; omega) W
    have hz9 : ¬ (9223372036854775807 < 9 + more.size) := by omega
    have he : ∀ W, (binOp .eql 23 (.agg #[.int .u8 (f.toNat : Int), .int .u8 (c.toNat : Int), .int .u8 (r.toNat : Int), .int .u8 (e.toNat : Int), .int .u8 (s.toNat : Int)]) (.agg #[.int .u8 (f.toNat : Int), .int .u8 (c.toNat : Int), .int .u8 (r.toNat : Int), .int .u8 (e.toNat : Int), .int .u8 (s.toNat : Int)])).run Try.prog W = .ok (.bool true) W := fun W => by
      have h := eql_delims f c r e s f c r e s W
      rw [decide_eq_true rfl] at h
      exact h
    have VC := Lib.hid vc
    have VT := Lib.hid vt
    have HC := Lib.hid hc
    have O1 := Lib.hid o1
    have O2 := Lib.hid o2
    clear vc vt hc o1 o2 hv
    go_enter Try.func4, Try.ntmps4
    go_wp2_with fail
    refine (VC.out _).mono ?_
    rintro x w1 ⟨rfl, hb1⟩
    have k1 := (Blk.new w 23 #[.int .u8 (f.toNat : Int), .int .u8 (c.toNat : Int), .int .u8 (r.toNat : Int), .int .u8 (e.toNat : Int), .int .u8 (s.toNat : Int)]).below hb1 (by simp)
    have B1 := Lib.hid (box_below hb1)
    have K1 := Lib.hid k1
    clear hb1 k1
    go_wp2_with fail
    have k0 := K1.out
    refine wp_region_free 14 [12] Stays (fun | 4 => some fun v w' => ∃ g, v = .slice (some ⟨g, 0, none⟩) 1 1 ∧ Blk w' g 5 (cellsU8 [f]) | 13 => some fun v w' => ∃ g, v = .pointer (some ⟨g, 0, none⟩) ∧ w1.heap.size ≤ g ∧ Blk w' g 23 #[.int .u8 0, .int .u8 0, .int .u8 0, .int .u8 0, .int .u8 0] | _ => none) (by kernel_rfl) (by kernel_rfl) Stays.refl (by simp) (Stays.draw _) Stays.trans ?_ ?_
    · intro j φ v x y hB hp hxy
      split at hB <;> cases hB
      · obtain ⟨g, hg, hb⟩ := hp
        exact ⟨g, hg, hb.stays hxy⟩
      · obtain ⟨g, hg, h1, hb⟩ := hp
        exact ⟨g, hg, h1, hb.stays hxy⟩
    · apply wpFree_pure rfl rfl
      · intro vs wx hk K hK
        have c2 := fun i => (k0.stays hk.1).cell i
        go_simp
        exact hK _ (Stays.refl _)
      intro KK hKK
      go_simp
      refine hKK _ ?_
      clear hKK KK
      apply wpFree_pure rfl rfl
      · intro vs wx hk K hK
        have c2 := fun i => (k0.stays hk.1).cell i
        go_simp
        first
          | exact hK _ (Stays.refl _)
          | exact Calls.free hK (HC.out _)
      intro KK hKK
      go_simp
      refine hKK _ ?_
      clear hKK KK
      apply wpFree_pure rfl rfl
      · intro vs wx hk K hK
        have c2 := fun i => (k0.stays hk.1).cell i
        go_simp
        exact hK _ (Stays.refl _)
      intro KK hKK
      go_simp
      refine hKK _ ?_
      clear hKK KK
      apply wpFree_pure rfl rfl
      · intro vs wx hk K hK
        have c2 := fun i => (k0.stays hk.1).cell i
        go_simp
        exact hK _ (Stays.refl _)
      intro KK hKK
      go_simp
      refine hKK _ ?_
      clear hKK KK
      refine wpFree_fact rfl ?_ ?_
      · intro vs wx hk K hK
        go_simp
        exact hK _ _ (Stays.alloc _ _) ⟨_, rfl, Blk.new _ _ _⟩
      intro KK hKK
      go_simp
      refine hKK _ ?_
      clear hKK KK
      apply wpFree_pure rfl rfl
      · intro vs wx hk K hK
        obtain ⟨g, hg, hb⟩ := hk.2 4 _ rfl (by kernel_rfl)
        have hs : (convert 32 9 (.slice (some ⟨g, 0, none⟩) 1 1)).run Try.prog wx = .ok (.string ⟨#[f]⟩) wx := bytes_string (c := 1) (n := 1) hb (by simp)
        go_simp
        exact hK _ (Stays.refl _)
      intro KK hKK
      go_simp
      refine hKK _ ?_
      clear hKK KK
      apply wpFree_pure rfl rfl
      · intro vs wx hk K hK
        go_simp
        exact hK _ (Stays.refl _)
      intro KK hKK
      go_simp
      refine hKK _ ?_
      clear hKK KK
      apply wpFree_pure rfl rfl
      · intro vs wx hk K hK
        go_simp
        exact hK _ (Stays.refl _)
      intro KK hKK
      go_simp
      refine hKK _ ?_
      clear hKK KK
      apply wpFree_pure rfl rfl
      · intro vs wx hk K hK
        go_simp
        exact hK _ (Stays.refl _)
      intro KK hKK
      go_simp
      refine hKK _ ?_
      clear hKK KK
      apply wpFree_pure rfl rfl
      · intro vs wx hk K hK
        go_simp
        first
          | exact hK _ (Stays.refl _)
          | exact Calls.free hK (O1.out _)
      intro KK hKK
      go_simp
      refine hKK _ ?_
      clear hKK KK
      apply wpFree_pure rfl rfl
      · intro vs wx hk K hK
        go_simp
        exact hK _ (Stays.refl _)
      intro KK hKK
      go_simp
      refine hKK _ ?_
      clear hKK KK
      apply wpFree_pure rfl rfl
      · intro vs wx hk K hK
        go_simp
        exact hK _ (Stays.refl _)
      intro KK hKK
      go_simp
      refine hKK _ ?_
      clear hKK KK
      apply wpFree_late rfl rfl
      · intro vs wx K hK
        go_simp
        exact hK
      intro KK hKK
      go_simp
      refine hKK _ ?_
      clear hKK KK
      refine wpFree_fact rfl ?_ ?_
      · intro vs wx hk K hK
        go_simp
        exact hK _ _ (Stays.alloc _ _) ⟨_, rfl, hk.1.size, Blk.new _ _ _⟩
      intro KK hKK
      go_simp
      refine hKK _ ?_
      clear hKK KK
      refine wpFree_nil ?_
      intro vs w2 hs2 hf2
      obtain ⟨g, hg, hlt, hb2⟩ := hf2 13 _ (by omega) rfl
      intro KK hKK
      rw [hg]
      clear hf2
      simp only [List.drop_succ_cons, List.drop_zero]
      refine wpList_store_mid rfl 23 (.tmp 5) (.tmp 30) rfl g 0 #[.int .u8 (f.toNat : Int), .int .u8 (c.toNat : Int), .int .u8 (r.toNat : Int), .int .u8 (e.toNat : Int), .int .u8 (s.toNat : Int)] rfl rfl (hb2.there 5 (by simp)) (by kernel_rfl) (by simp [Value.oneCell']) ?_
      have k3 := hb2.set5 (a := .int .u8 (f.toNat : Int)) (b := .int .u8 (c.toNat : Int)) (c := .int .u8 (r.toNat : Int)) (d := .int .u8 (e.toNat : Int)) (e := .int .u8 (s.toNat : Int))
      have B3 : Below w1.heap.size w1 (w2.setCells g 0 [.int .u8 (f.toNat : Int), .int .u8 (c.toNat : Int), .int .u8 (r.toNat : Int), .int .u8 (e.toNat : Int), .int .u8 (s.toNat : Int)]) := below_setCells hs2 hlt _ _
      generalize w2.setCells g 0 [.int .u8 (f.toNat : Int), .int .u8 (c.toNat : Int), .int .u8 (r.toNat : Int), .int .u8 (e.toNat : Int), .int .u8 (s.toNat : Int)] = w3 at *
      have K3 := Lib.hid k3
      have KB := Lib.hid (k0.below B3 k0.lt)
      have B33 := Lib.hid (bt B1.out B3)
      clear k3 B3 hs2 hb2 hg hlt k0
      have c3 := fun i => KB.out.cell i
      go_wp2_with fail
      refine (HC.out _).mono ?_
      rintro x w4 ⟨rfl, hb4⟩
      have B4 := Lib.hid (bt B33.out hb4)
      have KB4 := Lib.hid (KB.out.below hb4 KB.out.lt)
      have K4 := Lib.hid (K3.out.below hb4 K3.out.lt)
      clear c3 hb4
      go_wp2_with fail
      refine (O2.out _).mono ?_
      rintro x w5 ⟨rfl, hb5⟩
      have B5 := Lib.hid ((bt B4.out hb5).alloc (bt B4.out hb5).size (.cells #[.int .u8 (f.toNat : Int), .int .u8 (c.toNat : Int), .int .u8 (r.toNat : Int), .int .u8 (e.toNat : Int), .int .u8 (s.toNat : Int)] 23))
      have k5 := (KB4.out.below hb5 KB4.out.lt).alloc (.cells #[.int .u8 (f.toNat : Int), .int .u8 (c.toNat : Int), .int .u8 (r.toNat : Int), .int .u8 (e.toNat : Int), .int .u8 (s.toNat : Int)] 23)
      have K5 := Lib.hid (((K4.out.below hb5 K4.out.lt).alloc (.cells #[.int .u8 (f.toNat : Int), .int .u8 (c.toNat : Int), .int .u8 (r.toNat : Int), .int .u8 (e.toNat : Int), .int .u8 (s.toNat : Int)] 23)).alloc (.cells #[.int .u8 (f.toNat : Int), .int .u8 (c.toNat : Int), .int .u8 (r.toNat : Int), .int .u8 (e.toNat : Int), .int .u8 (c.toNat : Int)] 23))
      have K7 := Lib.hid ((Blk.new w5 23 #[.int .u8 (f.toNat : Int), .int .u8 (c.toNat : Int), .int .u8 (r.toNat : Int), .int .u8 (e.toNat : Int), .int .u8 (s.toNat : Int)]).alloc (.cells #[.int .u8 (f.toNat : Int), .int .u8 (c.toNat : Int), .int .u8 (r.toNat : Int), .int .u8 (e.toNat : Int), .int .u8 (c.toNat : Int)] 23))
      have K9 := Lib.hid (show Blk ((w5.alloc (.cells #[.int .u8 (f.toNat : Int), .int .u8 (c.toNat : Int), .int .u8 (r.toNat : Int), .int .u8 (e.toNat : Int), .int .u8 (s.toNat : Int)] 23)).alloc (.cells #[.int .u8 (f.toNat : Int), .int .u8 (c.toNat : Int), .int .u8 (r.toNat : Int), .int .u8 (e.toNat : Int), .int .u8 (c.toNat : Int)] 23)) (w5.heap.size + 1) 23 #[.int .u8 (f.toNat : Int), .int .u8 (c.toNat : Int), .int .u8 (r.toNat : Int), .int .u8 (e.toNat : Int), .int .u8 (c.toNat : Int)] from by
        have h := Blk.new (w5.alloc (.cells #[.int .u8 (f.toNat : Int), .int .u8 (c.toNat : Int), .int .u8 (r.toNat : Int), .int .u8 (e.toNat : Int), .int .u8 (s.toNat : Int)] 23)) 23 #[.int .u8 (f.toNat : Int), .int .u8 (c.toNat : Int), .int .u8 (r.toNat : Int), .int .u8 (e.toNat : Int), .int .u8 (c.toNat : Int)]
        rwa [show (w5.alloc (.cells #[.int .u8 (f.toNat : Int), .int .u8 (c.toNat : Int), .int .u8 (r.toNat : Int), .int .u8 (e.toNat : Int), .int .u8 (s.toNat : Int)] 23)).heap.size = w5.heap.size + 1 from by simp] at h)
      have KB5 := Lib.hid (k5.alloc (.cells #[.int .u8 (f.toNat : Int), .int .u8 (c.toNat : Int), .int .u8 (r.toNat : Int), .int .u8 (e.toNat : Int), .int .u8 (c.toNat : Int)] 23))
      have B9 := Lib.hid (B5.out.alloc B5.out.size (.cells #[.int .u8 (f.toNat : Int), .int .u8 (c.toNat : Int), .int .u8 (r.toNat : Int), .int .u8 (e.toNat : Int), .int .u8 (c.toNat : Int)] 23))
      have c5 := fun i => k5.cell i
      have c6 := fun i => (k5.alloc (.cells #[.int .u8 (f.toNat : Int), .int .u8 (c.toNat : Int), .int .u8 (r.toNat : Int), .int .u8 (e.toNat : Int), .int .u8 (s.toNat : Int)] 23)).cell i
      clear hb5 k5
      go_wp2_with fail
      refine (alive6 _).mono ?_
      rintro x w10 ⟨rfl, hb10⟩
      have B10 := Lib.hid (bt B9.out hb10)
      have d1 := fun i => (K5.out.below hb10 K5.out.lt).cell i
      have d2 := fun i => (K7.out.below hb10 K7.out.lt).cell i
      have d3 := fun i => (K9.out.below hb10 K9.out.lt).cell i
      have d4 := fun i => (KB5.out.below hb10 KB5.out.lt).cell i
      clear hb10 c5 c6
      go_wp2_with fail
      refine (VT.out _).mono ?_
      rintro x w11 ⟨rfl, hb11⟩
      have B11 := Lib.hid (bt B10.out hb11)
      clear hb11 d1 d2 d3 d4
      go_wp2
      go_ret
      exact ⟨rfl, B11.out⟩
end Go.Proofs.Ytefebcibcmjbaab
