/- Part A8 of the proof: the statement that is proved stands in the text that ends with its name. No conditions beyond the card's. -/
import Derived.Test.YtmabpnmnppfgaaaGreatDoorA6
namespace Go.Proofs.YtmabpnmnppfgaaaGreatDoor
set_option linter.unusedVariables false
open Go Go.RowKit Go.BigFrame
def NumsNew (w w' : World) (v : Value) (ns : List Int) : Prop := (ns = [] ∧ v = .slice none 0 0) ∨ ∃ g n, ns = [n] ∧ v = .slice (some ⟨g, 0, none⟩) 1 1 ∧ w.heap.size ≤ g ∧ Blk w' g 3 #[.int .i64 n]
theorem NumsNew.grown_ {w w' w'' : World} {v : Value} {ns : List Int} (h : NumsNew w w' v ns) (hg : w'.grownBy w'' (some w.heap.size)) (h0 : ∀ g, v.ownBlock = some g → g ≠ w.heap.size) : NumsNew w w'' v ns := by
  rcases h with h | ⟨g, n, rfl, rfl, h1, h2⟩
  · exact .inl h
  · exact .inr ⟨g, n, rfl, rfl, h1, h2.grown hg (by simpa using h0 g rfl)⟩
def ParseOut (s : ByteArray) (w : World) (e : Ending) (w' : World) : Prop :=
  ∃ x : Except Int (List Ad.Tok), (s.size ≤ 65536 → Ad.ScanX s.data.toList x) ∧ (65536 < s.size → x = .error 2) ∧ match x with
    | .error er => e = .returned (.tuple #[.agg zs, .int .i64 er])
    | .ok l => match Ad.parseT (l ++ [Ad.endT]) with
      | none => e = .returned (.tuple #[.agg zs, .int .i64 100])
      | some c => ∃ v, NumsNew w w' v c.nums ∧ e = .returned (.tuple #[.agg #[.string ⟨c.word.toArray⟩, v, .string ⟨c.name.toArray⟩, .string ⟨c.data.toArray⟩], .int .i64 0])
set_option maxRecDepth 100000 in
set_option maxHeartbeats 4000000 in
theorem parse_any (s : ByteArray) (w : World) (hs : s.size ≤ 100000) :
    Calls Tryz.prog 6 #[.string s] w fun e w' => ParseOut s w e w' ∧ Below w.heap.size w w' := by
  have K1 := Lib.hid (fun W => scan_any s W hs)
  have Z2 := Lib.hid (Blk.new w 24 zs)
  have ZB := Lib.hid ((Below.refl _ w).alloc (Nat.le_refl _) (.cells zs 24))
  go_enter Tryz.func6, Tryz.ntmps6
  go_wp2_with fail
  refine (K1.out _).mono ?_
  rintro e w1 ⟨⟨x, hx1, hx2, hx⟩, hb1⟩
  have Y2 := Lib.hid (Z2.out.below hb1 Z2.out.lt)
  have YB := Lib.hid (ZB.out.trans (hb1.mono ZB.out.size))
  have hgs : w.heap.size + 1 ≤ w1.heap.size := by have := hb1.size; simpa using this
  have HX1 := Lib.hid hx1
  have HX2 := Lib.hid hx2
  clear K1 Z2 ZB hx1 hx2
  cases x with
  | error er =>
    obtain ⟨a, b, rfl⟩ := hx
    have her : er ≠ 0 := by
      rcases Nat.lt_or_ge 65536 s.size with h | h
      · have := HX2.out h
        cases this
        decide
      · rcases Ad.scanX_err (HX1.out h) er rfl with h | h <;> omega
    have q1 : (er != 0) = true := by rw [bne_iff_ne]; exact her
    clear her
    go_wp2_with (refine wpList_store_blk (cs' := zs) rfl 24 (.tmp 2) (.tmp 22) rfl w.heap.size rfl rfl (Y2.out.alloc _) rfl (by kernel_rfl) (by simp [Value.oneCell']) ?_; intro w4 hk4 hg4; have K4 := Lib.hid hk4; have G4 := Lib.hid hg4; clear hk4 hg4)
    (try simp only [Exit.inBlock, Exit.then])
    refine bodyPost_ret (step_res K4.out rfl rfl rfl) rfl ?_
    exact ⟨⟨.error er, HX1.out, HX2.out, rfl⟩, ((YB.out.alloc (by have := YB.out.size; omega) _).grown G4.out (by simp; omega) (by rintro x hx; cases hx; exact Nat.le_refl _))⟩
  | ok toks =>
    obtain ⟨gb, c, htl, rfl, hR, hmc, hcm⟩ := hx
    have LT := Lib.hid hR
    obtain ⟨l, hl⟩ : ∃ l, l = toks ++ [Ad.endT] := ⟨_, rfl⟩
    have hR2 : LAt tokE w1 (New (w.alloc (.cells zs 24)) w1) (some ⟨gb, 0, none⟩) (toks.length + 1) l := hl ▸ hR
    have hE := Lib.hid (show Ad.Ends l from ⟨toks, hl⟩)
    obtain ⟨t, r, rfl⟩ : ∃ t r, l = t :: r := by
      cases l with
      | nil => exact absurd rfl hE.out.ne
      | cons t r => exact ⟨t, r, rfl⟩
    have hP := Lib.hid (show ∀ (W' : World) (e : Ending), (match Ad.parseT (t :: r) with
      | none => e = .returned (.tuple #[.agg zs, .int .i64 100])
      | some c => ∃ v, NumsNew w W' v c.nums ∧ e = .returned (.tuple #[.agg #[.string ⟨c.word.toArray⟩, v, .string ⟨c.name.toArray⟩, .string ⟨c.data.toArray⟩], .int .i64 0])) → ParseOut s w e W' from fun W' e h => ⟨.ok toks, HX1.out, HX2.out, by simp only; rw [← hl]; exact h⟩)
    obtain ⟨cs, ⟨p, cl, cc, ⟨pt, pa, pb, pc, pd, pe, rfl⟩, rfl⟩, hrg⟩ := hR2.head_
    have LT := Lib.hid hR2
    have hm := Lib.hid (show toks.length + 1 ≤ 1048576 by omega)
    clear hl hR hR2
    have r0 : ∀ o', (w1.alloc o').cell? ⟨gb, 0, none⟩ = some (.int .i64 t.kind) := fun o' => World.rangeAt_alloc hrg o' 0 _ rfl
    have r1 : ∀ o', (w1.alloc o').cell? ⟨gb, 1, none⟩ = some (.string ⟨t.text.toArray⟩) := fun o' => World.rangeAt_alloc hrg o' 1 _ rfl
    obtain ⟨⟨sd, sn, sm⟩, hsd⟩ : ∃ sd : Ad.Shape, sd = (Dk.get Ad.shapeL ⟨t.text.toArray⟩).getD (false, false, false) := ⟨_, rfl⟩
    obtain ⟨is, his⟩ : ∃ is, is = (Dk.get Ad.shapeL ⟨t.text.toArray⟩).isSome := ⟨_, rfl⟩
    have HSH := Lib.hid (show Ad.shapeF t.text = if is = true then some (sd, sn, sm) else none by
      unfold Ad.shapeF
      rw [his, hsd]
      cases Dk.get Ad.shapeL ⟨t.text.toArray⟩ <;> rfl)
    have HLK := Lib.hid (show ∀ (W : World) (b : Nat), MapL encS W b Ad.shapeL → (Instr.lookup 77 (.map (some b)) (.string ⟨t.text.toArray⟩) true).run Tryz.prog W = .ok (.tuple #[.agg #[.bool sd, .bool sn, .bool sm], .bool is]) W from fun W b h => by
      rw [shape_look h, ← hsd, ← his]
      rfl)
    clear hsd his
    obtain ⟨mm, hmm⟩ : ∃ mm, mm = toks.length + 1 := ⟨_, rfl⟩
    rw [← hmm] at LT hm hmc ⊢
    have hm1 : 1 ≤ mm := by omega
    have HLr := Lib.hid (show r.length + 1 = mm by have := LT.out.1; simpa using this)
    clear hmm
    go_wp2_with fail
    obtain ⟨w2, hw2⟩ : ∃ w2, w2 = (w1.alloc (.cells #[.slice (some ⟨gb, 0, none⟩) mm c] 61)).alloc (.cells #[.string ⟨t.text.toArray⟩, .slice none 0 0, .string ⟨#[]⟩, .string ⟨#[]⟩] 24) := ⟨_, rfl⟩
    rw [← hw2]
    have L2 := Lib.hid (show Blk w2 w1.heap.size 61 #[.slice (some ⟨gb, 0, none⟩) mm c] from hw2 ▸ (Blk.new w1 _ _).alloc _)
    have E2 := Lib.hid (show Blk w2 (w1.heap.size + 1) 24 #[.string ⟨t.text.toArray⟩, .slice none 0 0, .string ⟨#[]⟩, .string ⟨#[]⟩] by
      have := Blk.new (w1.alloc (.cells #[.slice (some ⟨gb, 0, none⟩) mm c] 61)) 24 #[.string ⟨t.text.toArray⟩, .slice none 0 0, .string ⟨#[]⟩, .string ⟨#[]⟩]
      rw [hw2]
      simpa using this)
    have A2 := Lib.hid (show Blk w2 w.heap.size 24 zs from hw2 ▸ (Y2.out.alloc _).alloc _)
    have B2 := Lib.hid (show Below w1.heap.size w1 w2 from hw2 ▸ ((Below.refl _ w1).alloc (Nat.le_refl _) _).alloc (by simp) _)
    have hz2 : w1.heap.size + 2 ≤ w2.heap.size := by rw [hw2]; simp
    clear hw2 hrg r0 r1 Y2
    refine wp_region_free 9 [6] Stays (fun | 0 => some fun v w' => ∃ b, v = .map (some b) ∧ MapL encS w' b Ad.shapeL | 7 => some fun v w' => ∃ j, v = .pointer (some ⟨j, 0, none⟩) ∧ w2.heap.size ≤ j ∧ Blk w' j 75 #[.bool false, .bool false, .bool false] | 8 => some fun v w' => ∃ j, v = .pointer (some ⟨j, 0, none⟩) ∧ w2.heap.size ≤ j ∧ Blk w' j 4 #[.bool false] | _ => none) (by kernel_rfl) (by kernel_rfl) Stays.refl (by simp) (Stays.draw _) Stays.trans ?_ ?_
    · intro j φ v x y hB hp hxy
      split at hB <;> cases hB
      · obtain ⟨b, hv, hm⟩ := hp
        exact ⟨b, hv, hm.stays hxy⟩
      · obtain ⟨j, hj, h1, hb⟩ := hp
        exact ⟨j, hj, h1, hb.stays hxy⟩
      · obtain ⟨j, hj, h1, hb⟩ := hp
        exact ⟨j, hj, h1, hb.stays hxy⟩
    · refine wpFree_fact rfl ?_ ?_
      · intro vs wx hk K hK
        go_simp
        exact (shapes_any wx).mono fun x w' ⟨b, hx, hm, _, _, hb'⟩ => ⟨_, hx, hK _ _ hb' ⟨b, rfl, hm⟩⟩
      intro KK hKK
      go_simp
      refine hKK _ ?_
      clear hKK KK
      apply wpFree_pure rfl rfl
      · intro vs wx hk K hK
        go_simp
        exact hK _ (Stays.refl _)
      intro KK hKK
      go_simp
      refine hKK _ ?_
      clear hKK KK
      apply wpFree_pure rfl rfl
      · intro vs wx hk K hK
        have c0 := fun i => (E2.out.stays hk.1).cell i
        go_simp
        exact hK _ (Stays.refl _)
      intro KK hKK
      go_simp
      refine hKK _ ?_
      clear hKK KK
      apply wpFree_pure rfl rfl
      · intro vs wx hk K hK
        obtain ⟨b, hv, hm⟩ := hk.2 0 _ rfl (by kernel_rfl)
        have hlk := HLK.out _ _ hm
        go_simp
        exact hK _ (Stays.refl _)
      intro KK hKK
      go_simp
      refine hKK _ ?_
      clear hKK KK
      apply wpFree_pure rfl rfl
      · intro vs wx hk K hK
        go_simp
        exact hK _ (Stays.refl _)
      intro KK hKK
      go_simp
      refine hKK _ ?_
      clear hKK KK
      apply wpFree_pure rfl rfl
      · intro vs wx hk K hK
        go_simp
        exact hK _ (Stays.refl _)
      intro KK hKK
      go_simp
      refine hKK _ ?_
      clear hKK KK
      apply wpFree_late rfl rfl
      · intro vs wx K hK
        go_simp
        exact hK
      intro KK hKK
      go_simp
      refine hKK _ ?_
      clear hKK KK
      refine wpFree_fact rfl ?_ ?_
      · intro vs wx hk K hK
        go_simp
        exact hK _ _ (Stays.alloc _ _) ⟨_, rfl, hk.1.size, Blk.new _ _ _⟩
      intro KK hKK
      go_simp
      refine hKK _ ?_
      clear hKK KK
      refine wpFree_fact rfl ?_ ?_
      · intro vs wx hk K hK
        go_simp
        exact hK _ _ (Stays.alloc _ _) ⟨_, rfl, hk.1.size, Blk.new _ _ _⟩
      intro KK hKK
      go_simp
      refine hKK _ ?_
      clear hKK KK
      refine wpFree_nil ?_
      intro vs w5 hs5 hf5
      obtain ⟨bm, hbm, -⟩ := hf5 0 _ (by omega) rfl
      obtain ⟨j9, hj9, hj9ge, hb9⟩ := hf5 7 _ (by omega) rfl
      obtain ⟨j10, hj10, hj10ge, hb10⟩ := hf5 8 _ (by omega) rfl
      intro KK hKK
      rw [hbm, hj9, hj10]
      simp only [List.drop_succ_cons, List.drop_zero]
      refine wpList_store_blk (cs' := #[.bool sd, .bool sn, .bool sm]) rfl 75 (.tmp 9) (.tmp 34) rfl j9 rfl rfl hb9 rfl (by kernel_rfl) (by simp [Value.oneCell']) ?_
      intro w6 hb6 hg6
      have n910 : j9 ≠ j10 := blk_ne_ hb9 hb10 (by decide)
      refine wpList_store_one rfl 4 (.tmp 10) (.tmp 35) rfl j10 0 (.bool is) rfl rfl (hb10.grown hg6 (by simpa using Ne.symm n910)) (by simp) (by kernel_rfl) rfl ?_
      intro w7 hb7 hg7
      have L7 := Lib.hid (((L2.out.stays hs5).grown hg6 (by simp; omega)).grown hg7 (by simp; omega))
      have E7 := Lib.hid (((E2.out.stays hs5).grown hg6 (by simp; omega)).grown hg7 (by simp; omega))
      have A7 := Lib.hid (((A2.out.stays hs5).grown hg6 (by simp; omega)).grown hg7 (by simp; omega))
      have S7 := Lib.hid (hb6.grown hg7 (by simpa using n910))
      have I7 := Lib.hid (show Blk w7 j10 4 #[.bool is] from hb7)
      have B7 := Lib.hid (((B2.out.trans (Below.mono hs5 B2.out.size)).grown hg6 (by have := hs5.size; omega) (by rintro x hx; cases hx; omega)).grown hg7 (by have := hs5.size; have := hg6.size; omega) (by rintro x hx; cases hx; omega))
      have hj9l := S7.out.lt
      have hj10l := I7.out.lt
      clear hs5 hf5 hb9 hb10 hb6 hb7 hg6 hg7 L2 E2 A2 B2 hj9 hj10 hbm vs w5 w6 HLK
      have i7 := fun i => I7.out.cell i
      have l7 := fun i => L7.out.cell i
      have lf7 := fun i => L7.out.frozen i
      have hbad : ∀ (wx W4 : World), Below w1.heap.size w1 wx → Ad.parseT (t :: r) = none → wx.grownBy W4 (some w.heap.size) → ParseOut s w (.returned (.tuple #[.agg zs, .int .i64 100])) W4 ∧ Below w.heap.size w W4 := fun wx W4 hB hp hg => ⟨hP.out _ _ (by rw [hp]), (YB.out.trans (hB.mono YB.out.size)).grown hg (by have := hB.size; omega) (by rintro x hx; cases hx; exact Nat.le_refl _)⟩
      have HBAD := Lib.hid hbad
      clear hbad
      cases is with
      | false =>
        have hp := Lib.hid (show Ad.parseT (t :: r) = none by simp [Ad.parseT, HSH.out])
        go_wp2_with (refine wpList_store_blk (cs' := zs) rfl 24 (.tmp 2) (.tmp 45) rfl w.heap.size rfl rfl A7.out rfl (by kernel_rfl) (by simp [Value.oneCell']) ?_; intro w8 hk8 hg8; have K8 := Lib.hid hk8; have G8 := Lib.hid hg8; clear hk8 hg8)
        (try simp only [Exit.inBlock, Exit.then])
        refine bodyPost_ret (step_res K8.out rfl rfl rfl) rfl ?_
        exact HBAD.out _ _ B7.out hp.out G8.out
      | true =>
        obtain ⟨cs, ⟨p, cl, cc, ⟨pt, pa, pb, pc, pd, pe, rfl⟩, rfl⟩, hrg⟩ := (LT.out.below B7.out (fun b hb => hb.2)).head_
        have r0 : w7.cell? ⟨gb, 0, none⟩ = some (.int .i64 t.kind) := hrg 0 _ rfl
        clear hrg
        by_cases hk1 : t.kind = 1
        · have q1 : (t.kind != 1) = false := by rw [hk1]; rfl
          have HP2 := Lib.hid (show Ad.parseT (t :: r) = (let a := Ad.takeF sd [3] true r
            let b := Ad.takeF sn [1, 3] a.2.2 a.2.1
            let c := Ad.takeF sm [2] b.2.2 b.2.1
            if c.2.2 = false ∨ Ad.headKind c.2.1 ≠ 0 then none else some ⟨t.text, if sm = true then [c.1.num] else [], b.1.text, a.1.text⟩) by simp [Ad.parseT, HSH.out, hk1])
          have hE2 : Ad.Ends r := by
            obtain ⟨q, hq⟩ := hE.out
            cases q with
            | nil =>
              injection hq with hq1 hq2
              rw [hq1] at hk1
              cases hk1
            | cons x q =>
              injection hq with hq1 hq2
              exact ⟨q, hq2⟩
          have hc2 : 2 ≤ mm := by
            have := HLr.out
            have := List.length_pos_iff.2 hE2.ne
            omega
          have HE2 := Lib.hid hE2
          have hcne : ¬ c = 1 := by omega
          clear hE2 hk1
          go_wp2_with (refine wpList_store_one rfl 61 (.tmp 4) (.tmp 47) rfl w1.heap.size 0 (.slice (some ⟨gb, 11, none⟩) (mm - 1) (c - 1)) (by rfl) (by rfl) L7.out (by simp) (by kernel_rfl) rfl ?_; intro w8 hk8 hg8; have L8 := Lib.hid (show Blk w8 w1.heap.size 61 #[.slice (some ⟨gb, 11, none⟩) (mm - 1) (c - 1)] from hk8); have G8 := Lib.hid hg8; have s8 := (S7.out.grown hg8 (by simp; omega)).cell; clear hk8 hg8)
          have E8 := Lib.hid (E7.out.grown G8.out (by simp))
          have A8 := Lib.hid (A7.out.grown G8.out (by simp; omega))
          have S8 := Lib.hid (S7.out.grown G8.out (by simp; omega))
          have I8 := Lib.hid (I7.out.grown G8.out (by simp; omega))
          have B8 := Lib.hid (B7.out.grown G8.out B7.out.size (by rintro x hx; cases hx; exact Nat.le_refl _))
          have hz8 : w7.heap.size ≤ w8.heap.size := G8.out.size
          clear L7 E7 A7 S7 I7 B7 G8 i7 l7 lf7 r0 s8 HLr
          have LT2 := Lib.hid (show LAt tokE w1 (New (w.alloc (.cells zs 24)) w1) (some ⟨gb, 11, none⟩) (mm - 1) r from by have := LT.out.tail_; simpa using this)
          clear LT
          have hfd := word_text_field
          have HN8 := Lib.hid (show mm - 1 ≤ c - 1 ∧ c - 1 ≤ maxLen ∧ mm - 1 ≤ 1048576 from ⟨by omega, by omega, by have := hm.out; omega⟩)
          have hB8a := B8.out.alloc B8.out.size (.cells #[.int .i64 3] 3)
          refine (take_at w1 (w8.alloc (.cells #[.int .i64 3] 3)) sd true [3] w8.heap.size w1.heap.size j10 gb 11 (mm - 1) (c - 1) r (New (w.alloc (.cells zs 24)) w1) hB8a (fun b hb => hb.2) (Blk.new w8 3 #[.int .i64 3]) (by simp) (L8.out.alloc _) (I8.out.alloc _) LT2.out HE2.out.ne (by have := HN8.out; omega) (by have := HN8.out; omega) (by have := HN8.out; omega) (by omega) (Nat.le_refl _) (by omega)).mono ?_
          rintro e w9 ⟨⟨pt9, pa9, pb9, pc9, pd9, pe9, cl9, cc9, rfl⟩, ⟨o9, m9, c9, hL9, hLT9, hmc9, hcm9, hmm9⟩, hI9, hB9, hC9⟩
          have HE9 := Lib.hid (HE2.out.take sd [3] true (by decide))
          have E9 := Lib.hid ((E8.out.alloc (.cells #[.int .i64 3] 3)).chg hC9 (by omega) (by omega))
          have A9 := Lib.hid ((A8.out.alloc (.cells #[.int .i64 3] 3)).chg hC9 (by omega) (by omega))
          have S9 := Lib.hid ((S8.out.alloc (.cells #[.int .i64 3] 3)).chg hC9 (by omega) (by omega))
          have hzz9 : w8.heap.size + 1 ≤ w9.heap.size := by have := hC9.size; simpa using this
          obtain ⟨X, hX⟩ : ∃ q_, q_ = Ad.takeF sd [3] true r := ⟨_, rfl⟩
          rw [← hX] at hLT9 hI9 HE9 ⊢
          have HX := Lib.hid hX
          have L9 := Lib.hid hL9
          have LT9 := Lib.hid hLT9
          have I9 := Lib.hid hI9
          have B9 := Lib.hid hB9
          have HN9 := Lib.hid (show m9 ≤ c9 ∧ c9 ≤ maxLen ∧ m9 ≤ 1048576 from ⟨hmc9, hcm9, hmm9⟩)
          clear hB8a L8 E8 A8 S8 I8 B8 LT2 HE2 HN8 hL9 hLT9 hI9 hB9 hC9 hmc9 hcm9 hmm9 hX
          go_wp2_with (refine wpList_store_one rfl 9 (.tmp 55) (.tmp 54) rfl (w1.heap.size + 1) 3 _ (by rfl) (by rfl) (E9.out) (by simp) (by kernel_rfl) (by rfl) ?_; intro w10 hk10 hg10; have E10 := Lib.hid hk10; have G10 := Lib.hid hg10; have s10 := ((S9.out).grown hg10 (by simp; omega)).cell; clear hk10 hg10)
          have A10 := Lib.hid ((A9.out).grown G10.out (by simp; omega))
          have S10 := Lib.hid ((S9.out).grown G10.out (by simp; omega))
          have I10 := Lib.hid ((I9.out).grown G10.out (by simp; omega))
          have L10 := Lib.hid ((L9.out).grown G10.out (by simp))
          have B10 := Lib.hid ((B9.out).grown G10.out (by have := B9.out.size; simp; try omega) (by rintro x hx; cases hx; omega))
          have hzg10 := G10.out.size
          have LT10 := LT9
          have HE10 := HE9
          have HN10 := HN9
          clear s10 A9 S9 I9 L9 B9 E9 G10 LT9 HE9 HN9
          have hB10a := B10.out.alloc B10.out.size (.cells #[.int .i64 1, .int .i64 3] 3)
          refine (take_at w1 (w10.alloc (.cells #[.int .i64 1, .int .i64 3] 3)) sn X.2.2 [1, 3] w10.heap.size w1.heap.size j10 gb o9 m9 c9 X.2.1 (New (w.alloc (.cells zs 24)) w1) hB10a (fun b hb => hb.2) (Blk.new w10 3 #[.int .i64 1, .int .i64 3]) (by simp) (L10.out.alloc _) (I10.out.alloc _) LT10.out HE10.out.ne (by have := HN10.out; omega) (by have := HN10.out; omega) (by have := HN10.out; omega) (by omega) (Nat.le_refl _) (by omega)).mono ?_
          rintro e w11 ⟨⟨pt11, pa11, pb11, pc11, pd11, pe11, cl11, cc11, rfl⟩, ⟨o11, m11, c11, hL11, hLT11, hmc11, hcm11, hmm11⟩, hI11, hB11, hC11⟩
          have HE11 := Lib.hid (HE10.out.take sn [1, 3] X.2.2 (by decide))
          have E11 := Lib.hid ((E10.out.alloc (.cells #[.int .i64 1, .int .i64 3] 3)).chg hC11 (by omega) (by omega))
          have A11 := Lib.hid ((A10.out.alloc (.cells #[.int .i64 1, .int .i64 3] 3)).chg hC11 (by omega) (by omega))
          have S11 := Lib.hid ((S10.out.alloc (.cells #[.int .i64 1, .int .i64 3] 3)).chg hC11 (by omega) (by omega))
          have hzz11 : w10.heap.size + 1 ≤ w11.heap.size := by have := hC11.size; simpa using this
          obtain ⟨Y, hY⟩ : ∃ q_, q_ = Ad.takeF sn [1, 3] X.2.2 X.2.1 := ⟨_, rfl⟩
          rw [← hY] at hLT11 hI11 HE11 ⊢
          have HY := Lib.hid hY
          have L11 := Lib.hid hL11
          have LT11 := Lib.hid hLT11
          have I11 := Lib.hid hI11
          have B11 := Lib.hid hB11
          have HN11 := Lib.hid (show m11 ≤ c11 ∧ c11 ≤ maxLen ∧ m11 ≤ 1048576 from ⟨hmc11, hcm11, hmm11⟩)
          clear hB10a L10 E10 A10 S10 I10 B10 LT10 HE10 HN10 hL11 hLT11 hI11 hB11 hC11 hmc11 hcm11 hmm11 hY
          go_wp2_with (refine wpList_store_one rfl 9 (.tmp 62) (.tmp 61) rfl (w1.heap.size + 1) 2 _ (by rfl) (by rfl) (E11.out) (by simp) (by kernel_rfl) (by rfl) ?_; intro w12 hk12 hg12; have E12 := Lib.hid hk12; have G12 := Lib.hid hg12; have s12 := ((S11.out).grown hg12 (by simp; omega)).cell; clear hk12 hg12)
          have A12 := Lib.hid ((A11.out).grown G12.out (by simp; omega))
          have S12 := Lib.hid ((S11.out).grown G12.out (by simp; omega))
          have I12 := Lib.hid ((I11.out).grown G12.out (by simp; omega))
          have L12 := Lib.hid ((L11.out).grown G12.out (by simp))
          have B12 := Lib.hid ((B11.out).grown G12.out (by have := B11.out.size; simp; try omega) (by rintro x hx; cases hx; omega))
          have hzg12 := G12.out.size
          have LT12 := LT11
          have HE12 := HE11
          have HN12 := HN11
          clear s12 A11 S11 I11 L11 B11 E11 G12 LT11 HE11 HN11
          have hB12a := B12.out.alloc B12.out.size (.cells #[.int .i64 2] 3)
          refine (take_at w1 (w12.alloc (.cells #[.int .i64 2] 3)) sm Y.2.2 [2] w12.heap.size w1.heap.size j10 gb o11 m11 c11 Y.2.1 (New (w.alloc (.cells zs 24)) w1) hB12a (fun b hb => hb.2) (Blk.new w12 3 #[.int .i64 2]) (by simp) (L12.out.alloc _) (I12.out.alloc _) LT12.out HE12.out.ne (by have := HN12.out; omega) (by have := HN12.out; omega) (by have := HN12.out; omega) (by omega) (Nat.le_refl _) (by omega)).mono ?_
          rintro e w13 ⟨⟨pt13, pa13, pb13, pc13, pd13, pe13, cl13, cc13, rfl⟩, ⟨o13, m13, c13, hL13, hLT13, hmc13, hcm13, hmm13⟩, hI13, hB13, hC13⟩
          have HE13 := Lib.hid (HE12.out.take sm [2] Y.2.2 (by decide))
          have E13 := Lib.hid ((E12.out.alloc (.cells #[.int .i64 2] 3)).chg hC13 (by omega) (by omega))
          have A13 := Lib.hid ((A12.out.alloc (.cells #[.int .i64 2] 3)).chg hC13 (by omega) (by omega))
          have S13 := Lib.hid ((S12.out.alloc (.cells #[.int .i64 2] 3)).chg hC13 (by omega) (by omega))
          have hzz13 : w12.heap.size + 1 ≤ w13.heap.size := by have := hC13.size; simpa using this
          obtain ⟨Z, hZ⟩ : ∃ q_, q_ = Ad.takeF sm [2] Y.2.2 Y.2.1 := ⟨_, rfl⟩
          rw [← hZ] at hLT13 hI13 HE13 ⊢
          have HZ := Lib.hid hZ
          have L13 := Lib.hid hL13
          have LT13 := Lib.hid hLT13
          have I13 := Lib.hid hI13
          have B13 := Lib.hid hB13
          have HN13 := Lib.hid (show m13 ≤ c13 ∧ c13 ≤ maxLen ∧ m13 ≤ 1048576 from ⟨hmc13, hcm13, hmm13⟩)
          clear hB12a L12 E12 A12 S12 I12 B12 LT12 HE12 HN12 hL13 hLT13 hI13 hB13 hC13 hmc13 hcm13 hmm13 hZ
          have HP3 := Lib.hid (show Ad.parseT (t :: r) = if Z.2.2 = false ∨ Ad.headKind Z.2.1 ≠ 0 then none else some ⟨t.text, if sm = true then [Z.1.num] else [], Y.1.text, X.1.text⟩ by rw [HP2.out, HZ.out, HY.out, HX.out])
          have E13x := Lib.hid (show Blk w13 (w1.heap.size + 1) 24 #[.string ⟨t.text.toArray⟩, .slice none 0 0, .string ⟨Y.1.text.toArray⟩, .string ⟨X.1.text.toArray⟩] from E13.out)
          have hWn := Blk.new w13 71 #[.int .i64 Z.1.kind, .string ⟨Z.1.text.toArray⟩, .int .i64 Z.1.num, .string pt13, .int .i64 pa13, .int .i64 pb13, .int .i64 pc13, .int .i64 pd13, .int .i64 pe13, .int .i64 cl13, .int .i64 cc13]
          have hWb := B13.out.alloc B13.out.size (.cells #[.int .i64 Z.1.kind, .string ⟨Z.1.text.toArray⟩, .int .i64 Z.1.num, .string pt13, .int .i64 pa13, .int .i64 pb13, .int .i64 pc13, .int .i64 pd13, .int .i64 pe13, .int .i64 cl13, .int .i64 cc13] 71)
          have hzw : (w13.alloc (.cells #[.int .i64 Z.1.kind, .string ⟨Z.1.text.toArray⟩, .int .i64 Z.1.num, .string pt13, .int .i64 pa13, .int .i64 pb13, .int .i64 pc13, .int .i64 pd13, .int .i64 pe13, .int .i64 cl13, .int .i64 cc13] 71)).heap.size = w13.heap.size + 1 := by simp
          have hL := L13.out.alloc (.cells #[.int .i64 Z.1.kind, .string ⟨Z.1.text.toArray⟩, .int .i64 Z.1.num, .string pt13, .int .i64 pa13, .int .i64 pb13, .int .i64 pc13, .int .i64 pd13, .int .i64 pe13, .int .i64 cl13, .int .i64 cc13] 71)
          have hE := E13x.out.alloc (.cells #[.int .i64 Z.1.kind, .string ⟨Z.1.text.toArray⟩, .int .i64 Z.1.num, .string pt13, .int .i64 pa13, .int .i64 pb13, .int .i64 pc13, .int .i64 pd13, .int .i64 pe13, .int .i64 cl13, .int .i64 cc13] 71)
          have hA := A13.out.alloc (.cells #[.int .i64 Z.1.kind, .string ⟨Z.1.text.toArray⟩, .int .i64 Z.1.num, .string pt13, .int .i64 pa13, .int .i64 pb13, .int .i64 pc13, .int .i64 pd13, .int .i64 pe13, .int .i64 cl13, .int .i64 cc13] 71)
          have hS := S13.out.alloc (.cells #[.int .i64 Z.1.kind, .string ⟨Z.1.text.toArray⟩, .int .i64 Z.1.num, .string pt13, .int .i64 pa13, .int .i64 pb13, .int .i64 pc13, .int .i64 pd13, .int .i64 pe13, .int .i64 cl13, .int .i64 cc13] 71)
          have hI := I13.out.alloc (.cells #[.int .i64 Z.1.kind, .string ⟨Z.1.text.toArray⟩, .int .i64 Z.1.num, .string pt13, .int .i64 pa13, .int .i64 pb13, .int .i64 pc13, .int .i64 pd13, .int .i64 pe13, .int .i64 cl13, .int .i64 cc13] 71)
          have hsc := hS.cell
          have hwc := hWn.cell
          have HL := Lib.hid hL
          have HE_ := Lib.hid hE
          have HA := Lib.hid hA
          have HI := Lib.hid hI
          have HWB := Lib.hid hWb
          have HZW := Lib.hid hzw
          clear L13 E13 E13x A13 S13 I13 B13 hL hE hA hS hI hWb hWn hzw HX HY HP2
          cases sm with
          | false =>
            have hEc := HE_.out.cell
            have hIc := HI.out.cell
            have hLc := HL.out.cell
            have hNN : NumsNew w (w13.alloc (.cells #[.int .i64 Z.1.kind, .string ⟨Z.1.text.toArray⟩, .int .i64 Z.1.num, .string pt13, .int .i64 pa13, .int .i64 pb13, .int .i64 pc13, .int .i64 pd13, .int .i64 pe13, .int .i64 cl13, .int .i64 cc13] 71)) (.slice none 0 0) [] := .inl ⟨rfl, rfl⟩
            cases hz2 : Z.2.2 with
            | false =>
              have hp := Lib.hid (show Ad.parseT (t :: r) = none by rw [HP3.out, if_pos (.inl hz2)])
              rw [hz2] at hIc
              go_wp2_with (refine wpList_store_blk (cs' := zs) rfl 24 (.tmp 2) (.tmp 83) rfl w.heap.size rfl rfl HA.out rfl (by kernel_rfl) (by simp [Value.oneCell']) ?_; intro w20 hk20 hg20; have K20 := Lib.hid hk20; have G20 := Lib.hid hg20; clear hk20 hg20)
              (try simp only [Exit.inBlock, Exit.then])
              refine bodyPost_ret (step_res K20.out rfl rfl rfl) rfl ?_
              exact HBAD.out _ _ HWB.out hp.out G20.out
            | true =>
              rw [hz2] at hIc
              obtain ⟨t2, r2, hzl⟩ : ∃ t2 r2, Z.2.1 = t2 :: r2 := by
                cases hzl : Z.2.1 with
                | nil => exact absurd hzl HE13.out.ne
                | cons t2 r2 => exact ⟨t2, r2, rfl⟩
              have hlt := LT13.out
              rw [hzl] at hlt
              have hm13 : 1 ≤ m13 := by have := hlt.1; simp at this; omega
              obtain ⟨cs, ⟨p, cl, cc, ⟨pt, pa, pb, pc, pd, pe, rfl⟩, rfl⟩, hrg⟩ := (hlt.below HWB.out (fun b hb => hb.2)).head_
              have r0 : (w13.alloc (.cells #[.int .i64 Z.1.kind, .string ⟨Z.1.text.toArray⟩, .int .i64 Z.1.num, .string pt13, .int .i64 pa13, .int .i64 pb13, .int .i64 pc13, .int .i64 pd13, .int .i64 pe13, .int .i64 cl13, .int .i64 cc13] 71)).cell? ⟨gb, o13, none⟩ = some (.int .i64 t2.kind) := hrg 0 _ rfl
              clear hrg hlt
              by_cases hk2 : t2.kind = 0
              · have q2 : (t2.kind != 0) = false := by rw [hk2]; rfl
                have hp := Lib.hid (show Ad.parseT (t :: r) = some ⟨t.text, [], Y.1.text, X.1.text⟩ by
                  rw [HP3.out, if_neg (by rw [hz2, hzl]; simp [Ad.headKind, hk2])]
                  rfl)
                have HNN := Lib.hid hNN
                clear hk2 hNN
                go_wp2_with (first
                  | (refine wpList_load_row rfl 24 (.tmp 8) rfl (w1.heap.size + 1) rfl 24 _ (0, 0) _ (HE_.out) Tryz.underlying24 rfl (by kernel_rfl) ?_)
                  | (refine wpList_store_blk (cs' := #[.string ⟨t.text.toArray⟩, (.slice none 0 0), .string ⟨Y.1.text.toArray⟩, .string ⟨X.1.text.toArray⟩]) rfl 24 (.tmp 2) (.tmp 84) rfl w.heap.size rfl rfl HA.out rfl (by kernel_rfl) (by simp [Value.oneCell']) ?_; intro w20 hk20 hg20; have K20 := Lib.hid hk20; have G20 := Lib.hid hg20; clear hk20 hg20))
                (try simp only [Exit.inBlock, Exit.then])
                refine bodyPost_ret (step_res K20.out rfl rfl rfl) rfl ?_
                refine ⟨hP.out _ _ ?_, (YB.out.trans (Below.mono HWB.out YB.out.size)).grown G20.out (by have := Below.size HWB.out; omega) (by rintro x hx; cases hx; exact Nat.le_refl _)⟩
                rw [hp.out]
                exact ⟨_, HNN.out.grown_ G20.out (by intro g hg; simp [Value.ownBlock] at hg; try omega), rfl⟩
              · have q2 : (t2.kind != 0) = true := by rw [bne_iff_ne]; exact hk2
                have hp := Lib.hid (show Ad.parseT (t :: r) = none by rw [HP3.out, if_pos (.inr (by rw [hzl]; exact hk2))])
                clear hk2
                go_wp2_with (refine wpList_store_blk (cs' := zs) rfl 24 (.tmp 2) (.tmp 83) rfl w.heap.size rfl rfl HA.out rfl (by kernel_rfl) (by simp [Value.oneCell']) ?_; intro w20 hk20 hg20; have K20 := Lib.hid hk20; have G20 := Lib.hid hg20; clear hk20 hg20)
                (try simp only [Exit.inBlock, Exit.then])
                refine bodyPost_ret (step_res K20.out rfl rfl rfl) rfl ?_
                exact HBAD.out _ _ HWB.out hp.out G20.out
          | true =>
            have hN := Blk.new (w13.alloc (.cells #[.int .i64 Z.1.kind, .string ⟨Z.1.text.toArray⟩, .int .i64 Z.1.num, .string pt13, .int .i64 pa13, .int .i64 pb13, .int .i64 pc13, .int .i64 pd13, .int .i64 pe13, .int .i64 cl13, .int .i64 cc13] 71)) 3 #[.int .i64 Z.1.num]
            rw [HZW.out] at hN
            have hBB := HWB.out.alloc (by have := HWB.out.size; omega) (.cells #[.int .i64 Z.1.num] 3)
            cases hz2 : Z.2.2 with
            | false =>
              have hp := Lib.hid (show Ad.parseT (t :: r) = none by rw [HP3.out, if_pos (.inl hz2)])
              rw [hz2] at HI
              go_wp2_with (first
                | (refine wpList_store_one rfl 22 (.tmp 73) (.tmp 72) rfl (w1.heap.size + 1) 1 (.slice (some ⟨w13.heap.size + 1, 0, none⟩) 1 1) (by rfl) (by rfl) (HE_.out.alloc _) (by simp) (by kernel_rfl) (by rfl) ?_; intro w16 hk16 hg16; have E16 := Lib.hid (show Blk w16 (w1.heap.size + 1) 24 #[.string ⟨t.text.toArray⟩, .slice (some ⟨w13.heap.size + 1, 0, none⟩) 1 1, .string ⟨Y.1.text.toArray⟩, .string ⟨X.1.text.toArray⟩] from hk16); have A16 := Lib.hid ((HA.out.alloc (.cells #[.int .i64 Z.1.num] 3)).grown hg16 (by simp; omega)); have i16 := ((HI.out.alloc (.cells #[.int .i64 Z.1.num] 3)).grown hg16 (by simp; omega)).cell; have l16 := ((HL.out.alloc (.cells #[.int .i64 Z.1.num] 3)).grown hg16 (by simp)).cell; have N16 := Lib.hid (hN.grown hg16 (by simp; omega)); have B16 := Lib.hid (hBB.grown hg16 (by have := hBB.size; omega) (by rintro x hx; cases hx; omega)); clear hk16 hg16)
                | (refine wpList_store_blk (cs' := zs) rfl 24 (.tmp 2) (.tmp 83) rfl w.heap.size rfl rfl A16.out rfl (by kernel_rfl) (by simp [Value.oneCell']) ?_; intro w20 hk20 hg20; have K20 := Lib.hid hk20; have G20 := Lib.hid hg20; clear hk20 hg20))
              (try simp only [Exit.inBlock, Exit.then])
              refine bodyPost_ret (step_res K20.out rfl rfl rfl) rfl ?_
              exact HBAD.out _ _ B16.out hp.out G20.out
            | true =>
              rw [hz2] at HI
              obtain ⟨t2, r2, hzl⟩ : ∃ t2 r2, Z.2.1 = t2 :: r2 := by
                cases hzl : Z.2.1 with
                | nil => exact absurd hzl HE13.out.ne
                | cons t2 r2 => exact ⟨t2, r2, rfl⟩
              have hlt := LT13.out
              rw [hzl] at hlt
              have hm13 : 1 ≤ m13 := by have := hlt.1; simp at this; omega
              have hgb : gb < w1.heap.size := by
                obtain ⟨ad, e, hs2, _⟩ := hlt.2 (by omega)
                cases e
                exact hs2.2
              obtain ⟨cs, ⟨p, cl, cc, ⟨pt, pa, pb, pc, pd, pe, rfl⟩, rfl⟩, hrg⟩ := (hlt.below hBB (fun b hb => hb.2)).head_
              have r0 : ((w13.alloc (.cells #[.int .i64 Z.1.kind, .string ⟨Z.1.text.toArray⟩, .int .i64 Z.1.num, .string pt13, .int .i64 pa13, .int .i64 pb13, .int .i64 pc13, .int .i64 pd13, .int .i64 pe13, .int .i64 cl13, .int .i64 cc13] 71)).alloc (.cells #[.int .i64 Z.1.num] 3)).cell? ⟨gb, o13, none⟩ = some (.int .i64 t2.kind) := hrg 0 _ rfl
              clear hrg hlt
              by_cases hk2 : t2.kind = 0
              · have q2 : (t2.kind != 0) = false := by rw [hk2]; rfl
                have hp := Lib.hid (show Ad.parseT (t :: r) = some ⟨t.text, [Z.1.num], Y.1.text, X.1.text⟩ by
                  rw [HP3.out, if_neg (by rw [hz2, hzl]; simp [Ad.headKind, hk2])]
                  rfl)
                clear hk2
                go_wp2_with (first
                  | (refine wpList_store_one rfl 22 (.tmp 73) (.tmp 72) rfl (w1.heap.size + 1) 1 (.slice (some ⟨w13.heap.size + 1, 0, none⟩) 1 1) (by rfl) (by rfl) (HE_.out.alloc _) (by simp) (by kernel_rfl) (by rfl) ?_; intro w16 hk16 hg16; have E16 := Lib.hid (show Blk w16 (w1.heap.size + 1) 24 #[.string ⟨t.text.toArray⟩, .slice (some ⟨w13.heap.size + 1, 0, none⟩) 1 1, .string ⟨Y.1.text.toArray⟩, .string ⟨X.1.text.toArray⟩] from hk16); have A16 := Lib.hid ((HA.out.alloc (.cells #[.int .i64 Z.1.num] 3)).grown hg16 (by simp; omega)); have i16 := ((HI.out.alloc (.cells #[.int .i64 Z.1.num] 3)).grown hg16 (by simp; omega)).cell; have l16 := ((HL.out.alloc (.cells #[.int .i64 Z.1.num] 3)).grown hg16 (by simp)).cell; have N16 := Lib.hid (hN.grown hg16 (by simp; omega)); have B16 := Lib.hid (hBB.grown hg16 (by have := hBB.size; omega) (by rintro x hx; cases hx; omega)); have r16 := (World.cell?_of_block (a := ⟨gb, o13, none⟩) (hg16.block gb (by have := hBB.size; omega) (by simp; omega))).trans r0; clear hk16 hg16)
                  | (refine wpList_load_row rfl 24 (.tmp 8) rfl (w1.heap.size + 1) rfl 24 _ (0, 0) _ (E16.out) Tryz.underlying24 rfl (by kernel_rfl) ?_)
                  | (refine wpList_store_blk (cs' := #[.string ⟨t.text.toArray⟩, .slice (some ⟨w13.heap.size + 1, 0, none⟩) 1 1, .string ⟨Y.1.text.toArray⟩, .string ⟨X.1.text.toArray⟩]) rfl 24 (.tmp 2) (.tmp 84) rfl w.heap.size rfl rfl A16.out rfl (by kernel_rfl) (by simp [Value.oneCell']) ?_; intro w20 hk20 hg20; have K20 := Lib.hid hk20; have G20 := Lib.hid hg20; clear hk20 hg20))
                (try simp only [Exit.inBlock, Exit.then])
                refine bodyPost_ret (step_res K20.out rfl rfl rfl) rfl ?_
                refine ⟨hP.out _ _ ?_, (YB.out.trans (Below.mono B16.out YB.out.size)).grown G20.out (by have := B16.out.size; omega) (by rintro x hx; cases hx; exact Nat.le_refl _)⟩
                rw [hp.out]
                exact ⟨_, .inr ⟨_, _, rfl, rfl, by omega, N16.out.grown G20.out (by simp; omega)⟩, rfl⟩
              · have q2 : (t2.kind != 0) = true := by rw [bne_iff_ne]; exact hk2
                have hp := Lib.hid (show Ad.parseT (t :: r) = none by rw [HP3.out, if_pos (.inr (by rw [hzl]; exact hk2))])
                clear hk2
                go_wp2_with (first
                  | (refine wpList_store_one rfl 22 (.tmp 73) (.tmp 72) rfl (w1.heap.size + 1) 1 (.slice (some ⟨w13.heap.size + 1, 0, none⟩) 1 1) (by rfl) (by rfl) (HE_.out.alloc _) (by simp) (by kernel_rfl) (by rfl) ?_; intro w16 hk16 hg16; have E16 := Lib.hid (show Blk w16 (w1.heap.size + 1) 24 #[.string ⟨t.text.toArray⟩, .slice (some ⟨w13.heap.size + 1, 0, none⟩) 1 1, .string ⟨Y.1.text.toArray⟩, .string ⟨X.1.text.toArray⟩] from hk16); have A16 := Lib.hid ((HA.out.alloc (.cells #[.int .i64 Z.1.num] 3)).grown hg16 (by simp; omega)); have i16 := ((HI.out.alloc (.cells #[.int .i64 Z.1.num] 3)).grown hg16 (by simp; omega)).cell; have l16 := ((HL.out.alloc (.cells #[.int .i64 Z.1.num] 3)).grown hg16 (by simp)).cell; have N16 := Lib.hid (hN.grown hg16 (by simp; omega)); have B16 := Lib.hid (hBB.grown hg16 (by have := hBB.size; omega) (by rintro x hx; cases hx; omega)); have r16 := (World.cell?_of_block (a := ⟨gb, o13, none⟩) (hg16.block gb (by have := hBB.size; omega) (by simp; omega))).trans r0; clear hk16 hg16)
                  | (refine wpList_store_blk (cs' := zs) rfl 24 (.tmp 2) (.tmp 83) rfl w.heap.size rfl rfl A16.out rfl (by kernel_rfl) (by simp [Value.oneCell']) ?_; intro w20 hk20 hg20; have K20 := Lib.hid hk20; have G20 := Lib.hid hg20; clear hk20 hg20))
                (try simp only [Exit.inBlock, Exit.then])
                refine bodyPost_ret (step_res K20.out rfl rfl rfl) rfl ?_
                exact HBAD.out _ _ B16.out hp.out G20.out
        · have q1 : (t.kind != 1) = true := by rw [bne_iff_ne]; exact hk1
          have hp := Lib.hid (show Ad.parseT (t :: r) = none by simp [Ad.parseT, HSH.out, hk1])
          clear hk1
          go_wp2_with (refine wpList_store_blk (cs' := zs) rfl 24 (.tmp 2) (.tmp 45) rfl w.heap.size rfl rfl A7.out rfl (by kernel_rfl) (by simp [Value.oneCell']) ?_; intro w8 hk8 hg8; have K8 := Lib.hid hk8; have G8 := Lib.hid hg8; clear hk8 hg8)
          (try simp only [Exit.inBlock, Exit.then])
          refine bodyPost_ret (step_res K8.out rfl rfl rfl) rfl ?_
          exact HBAD.out _ _ B7.out hp.out G8.out
end Go.Proofs.YtmabpnmnppfgaaaGreatDoor
