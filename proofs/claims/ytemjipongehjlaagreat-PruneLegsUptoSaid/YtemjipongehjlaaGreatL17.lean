/- As bookLegs, for a list of which it is known that it lies apart. -/
import Derived.Test.YtemjipongehjlaaGreatL14
import Derived.Test.YtemjipongehjlaaGreatL6
import Derived.Test.YtemjipongehjlaaGreatL10
namespace Go.Proofs.YtemjipongehjlaaGreat
set_option linter.unusedVariables false
open Go.RowKit Go.BigFrame
set_option maxRecDepth 100000 in
set_option maxHeartbeats 4000000 in
theorem bookLegs2_any (gb B C : Nat) (tx tw lg lw x : Value) (N : Nat) (lx : List P.Leg) (v u : Nat → Value) (l : Nat → List P.Leg) (w : World)
    (hb : Blk w gb 51 (bookCells tx tw lg lw)) (hK : KeptL w B N lg v l) (hU : KeptL w B N lw u l) (hne : ∀ g, lg.ownBlock = some g → lw.ownBlock ≠ some g)
    (hx : OwnL w C x lx) (hC : ∀ i g, i < N → (v i).ownBlock = some g → x.ownBlock ≠ some g) (hN : N < 250) (hf : lx.length ≤ 1000) (hB : B ≤ gb) (hBC : B ≤ C) :
    Calls Tryz.prog 25 #[.pointer (some ⟨gb, 0, none⟩), x] w (GivesBookL w gb B tx tw N x lx v u l) := by
  obtain ⟨i0, hi0, hz0, hs0, hb0⟩ := info_parts infoLs
  have hBw : B ≤ w.heap.size := Nat.le_trans hB (Nat.le_of_lt hb.lt)
  obtain ⟨Ax, cx, rfl, hxn⟩ := own_slice hx
  obtain ⟨Ag, cg, rfl, _⟩ := own_slice hK.outer
  obtain ⟨Aw, cw, rfl, _⟩ := own_slice hU.outer
  have hgl := own_ne hK.outer hb (by decide)
  have hgw := own_ne hU.outer hb (by decide)
  have c20 : w.cell? ⟨gb, 20, none⟩ = some (.slice Ag N cg) := by rw [hb.cell]; rfl
  have HB := Lib.hid hb
  have HK := Lib.hid hK
  have HU := Lib.hid hU
  have HX := Lib.hid hx
  have HC := Lib.hid hC
  have HNE := Lib.hid hne
  have HGL := Lib.hid hgl
  have HGW := Lib.hid hgw
  have HXN := Lib.hid hxn
  have t0 : decide ((N : Int) < 250) = true := by simp; omega
  clear hb hK hU hx hC hne hgl hgw hxn
  go_enter Tryz.func25, Tryz.ntmps25
  go_wp2_with (at_builtin; refine wpList_append_own_at (w.alloc (.cells #[.slice Ax lx.length cx] 26)) rfl (.tmp 14) (.tmp 16) 43 rfl B 26 i0 (.slice none 0 0) 1 24 Tryz.underlying43 hi0 hz0 hs0 hb0 rfl (by omega) (.slice Ag N cg) N ((List.range N).map v) rfl (own_stays HK.out.outer (Stays.alloc _ _)) ⟨w.heap.size, 0, none⟩ 1 1 [.slice Ax lx.length cx] rfl rfl (cell_one_new _ _ _) (by simp [Value.oneCell']) (by unfold maxLen; omega) (by omega) (by simp; omega) ?_; intro V' w4 hown4 hgr4 _ hat; obtain ⟨AV, cV, rfl, _⟩ := own_slice hown4; have g4 := (Stays.alloc w (.cells #[.slice Ax lx.length cx] 26)).grown (Value.ownBlock (.slice Ag N cg)); have hb4 := HB.out.grown (g4.trans hgr4) (fun e => HGL.out e.symm); have B4 := Lib.hid hb4; have fz4 := hb4.frozen 20; have c204 : w4.cell? ⟨gb, 20, none⟩ = some (.slice Ag N cg) := (hb4.cell 20).trans rfl; have O4 := Lib.hid hown4; have G4 := Lib.hid (g4.trans hgr4); have HAT := Lib.hid hat; clear hown4 hgr4 g4 hb4 c20 hat)
  have ch5 : Ch [some gb, Value.ownBlock (.slice Ag N cg)] w (w4.setCell ⟨gb, 20, none⟩ (.slice AV (N + 1) cV)) := (Ch.of_grown G4.out (by simp)).trans (Ch.of_grown (grown_set w4 gb 20 (.slice AV (N + 1) cV)) (by simp))
  have fr5 : Frame w (w4.setCell ⟨gb, 20, none⟩ (.slice AV (N + 1) cV)) B [51, 26] := (Frame.of_own G4.out (own_less HK.out.outer (Nat.le_refl _)) (by simp)).trans (Frame.of_grown (grown_set w4 gb 20 (.slice AV (N + 1) cV)) B4.out hB (by simp))
  have hb5 : Blk (w4.setCell ⟨gb, 20, none⟩ (.slice AV (N + 1) cV)) gb 51 (bookCells tx tw (.slice AV (N + 1) cV) (.slice Aw N cw)) := B4.out.set_ 20 (.slice AV (N + 1) cV)
  have hk5 : KeptL (w4.setCell ⟨gb, 20, none⟩ (.slice AV (N + 1) cV)) B (N + 1) (.slice AV (N + 1) cV) (addAt v N (.slice Ax lx.length cx)) (addAt l N lx) := by
    refine Kept.snoc HK.out (own_grown O4.out (grown_set w4 gb 20 (.slice AV (N + 1) cV)) (own_ne O4.out B4.out (by decide))) (fun i hi => own_frame (HK.out.own i hi) fr5 (by decide)) (own_frame (own_less HX.out hBC) fr5 (by decide)) (fun i g hi hg e => ?_) hf
    exact HC.out i g hi hg e
  have hu5 : KeptL (w4.setCell ⟨gb, 20, none⟩ (.slice AV (N + 1) cV)) B N (.slice Aw N cw) u l := by
    refine ⟨own_ch HU.out.outer ch5 (fun g hg => ?_), fun i hi => own_frame (HU.out.own i hi) fr5 (by decide), HU.out.apart, HU.out.few⟩
    simp only [List.mem_cons, List.not_mem_nil, or_false, not_or]
    exact ⟨fun e => HGW.out (by rw [hg, e]), fun e => HNE.out g e.symm hg⟩
  have hx5 : OwnL (w4.setCell ⟨gb, 20, none⟩ (.slice AV (N + 1) cV)) C (.slice Ax lx.length cx) lx := own_frame HX.out fr5 (by decide)
  have hne5 : ∀ g, (Value.slice AV (N + 1) cV).ownBlock = some g → (Value.slice Aw N cw).ownBlock ≠ some g := fun g hg e => by
    rcases HAT.out with h1 | h1
    · exact HNE.out g (by rw [← h1, hg]) e
    · rw [hg] at h1
      have h2 := (World.ownsRow.lt HU.out.outer g e).2
      have : g = w.heap.size + 1 := by simpa using h1
      omega
  have K5 := Lib.hid hk5
  have U5 := Lib.hid hu5
  have X5 := Lib.hid hx5
  have N5 := Lib.hid hne5
  have F5 := Lib.hid fr5
  have B5 := Lib.hid hb5
  clear ch5 hb5 hk5 hu5 hx5 hne5 fr5 fz4 c204
  generalize w4.setCell ⟨gb, 20, none⟩ (.slice AV (N + 1) cV) = w5 at *
  refine wp_region_genC 9 [6, 7, 8] (AddI w5 B 26 (.slice Aw N cw) N ((List.range N).map u) 69 6 lx.length (lx.flatMap P.Leg.cells)) (by kernel_rfl) (by kernel_rfl) AddI.start ?_
  apply wpGenC_pure rfl
  · intro L vs wx hI hC hR hL K hK
    go_simp
    exact hK _ (hI.pure (by decide) (by decide) (by decide))
  intro KK hKK
  go_simp
  refine hKK _ ?_
  clear hKK KK
  apply wpGenC_pure rfl
  · intro L vs wx hI hC hR hL K hK
    go_simp
    exact hK _ (hI.pure (by decide) (by decide) (by decide))
  intro KK hKK
  go_simp
  refine hKK _ ?_
  clear hKK KK
  apply wpGenC_pure rfl
  · intro L vs wx hI hC hR hL K hK
    go_simp
    exact hK _ (hI.pure (by decide) (by decide) (by decide))
  intro KK hKK
  go_simp
  refine hKK _ ?_
  clear hKK KK
  apply wpGenC_pure rfl
  · intro L vs wx hI hC hR hL K hK
    go_simp
    exact hK _ (hI.pure (by decide) (by decide) (by decide))
  intro KK hKK
  go_simp
  refine hKK _ ?_
  clear hKK KK
  apply wpGenC_pure rfl
  · intro L vs wx hI hC hR hL K hK
    have h8 : L 8 = false := hC.off hL (by kernel_rfl)
    have c21 : wx.cell? ⟨gb, 21, none⟩ = some (.slice Aw N cw) := ((B5.out.stays (hI.st h8)).cell 21).trans rfl
    go_simp
    exact hK _ (hI.pure (by decide) (by decide) (by decide))
  intro KK hKK
  go_simp
  refine hKK _ ?_
  clear hKK KK
  apply wpGenC_pure rfl
  · intro L vs wx hI hC hR hL K hK
    go_simp
    exact hK _ (hI.pure (by decide) (by decide) (by decide))
  intro KK hKK
  go_simp
  refine hKK _ ?_
  clear hKK KK
  refine wpGenC_fact rfl ?_ ?_
  · intro L vs wx hI hC hR hL K hK
    have h7 : L 7 = false := hC.off hL (by kernel_rfl)
    have h8 : L 8 = false := hC.off hL (by kernel_rfl)
    have hs := hI.st h8
    go_simp
    refine (copyLegs_any Ax lx.length cx lx wx.heap.size wx (OwnL.legs (X5.out.stays hs)) HXN.out (by omega)).mono ?_
    rintro e w' ⟨v6, rfl, ho6, hb6⟩
    exact ⟨_, rfl, hK _ _ (hI.op6 h7 h8 hb6 (own_less ho6 hs.size))⟩
  intro KK hKK
  go_simp
  refine hKK _ ?_
  clear hKK KK
  refine wpGenC_fact rfl ?_ ?_
  · intro L vs wx hI hC hR hL K hK
    have h6 := hR 6 (by kernel_rfl)
    have h8 : L 8 = false := hC.off hL (by kernel_rfl)
    obtain ⟨A6, c6, e6, _⟩ := own_slice (hI.six h6 h8)
    rw [e6]
    go_simp
    rw [← e6]
    exact hK _ _ (hI.op7 h6 h8)
  intro KK hKK
  go_simp
  refine hKK _ ?_
  clear hKK KK
  refine wpGenC_fact rfl ?_ ?_
  · intro L vs wx hI hC hR hL K hK
    have h6 := hR 6 (by kernel_rfl)
    have h7 := hR 7 (by kernel_rfl)
    obtain ⟨g7, e7, hk7⟩ := hI.seven h7 hL
    have hs := hI.st hL
    obtain ⟨v', w', hr, ho, hg, _, ha⟩ := run_append_own_at (P := Tryz.prog) wx B 43 43 26 i0 (.slice none 0 0) 1 24 Tryz.underlying43 hi0 hz0 hs0 hb0 rfl (by omega) (.slice Aw N cw) N ((List.range N).map u) (own_stays U5.out.outer hs) ⟨g7, 0, none⟩ 1 1 [vs 6] rfl (fun j z hz => by
      match j, hz with
      | 0, hz =>
        cases hz
        rw [Addr.add_lit, Nat.zero_add, hk7.cell]
        rfl) (fun z hz => by simp at hz; subst hz; exact own_one (hI.six h6 hL)) (by unfold maxLen; omega) (by omega) (by have := hs.size; have := B5.out.lt; omega)
    exact stepF_append rfl (.tmp 24) (.tmp 27) 43 rfl rfl (by rw [← e7]; rfl) hr (hK _ _ (hI.op8 h6 hL ho hg ha))
  intro KK hKK
  go_simp
  refine hKK _ ?_
  clear hKK KK
  refine wpGenC_nil ?_
  intro vs w6 hI6
  obtain ⟨w1, hs1, hx1, ho6, hg6, ha6⟩ := hI6.eight (by decide)
  have b1 := B5.out.stays hs1
  have b6 := b1.grown hg6 (fun e => HGW.out e.symm)
  have U1 := own_stays U5.out.outer hs1
  obtain ⟨A8, c8, e8, _⟩ := own_slice ho6
  rw [e8] at ho6
  have c21 : w6.cell? ⟨gb, 21, none⟩ = some (.slice Aw N cw) := (b6.cell 21).trans rfl
  have f21 := b6.frozen 21
  have fr7 : Frame w (w6.setCell ⟨gb, 21, none⟩ (.slice A8 (N + 1) c8)) B [51, 26] := F5.out.trans ((Frame.of_stays hs1 _ _).trans ((Frame.of_own hg6 (own_less U1 (Nat.le_refl _)) (by simp)).trans (Frame.of_grown (grown_set w6 gb 21 (.slice A8 (N + 1) c8)) b6 hB (by simp))))
  have fr57 : Frame w5 (w6.setCell ⟨gb, 21, none⟩ (.slice A8 (N + 1) c8)) B [51, 26] := (Frame.of_stays hs1 _ _).trans ((Frame.of_own hg6 (own_less U1 (Nat.le_refl _)) (by simp)).trans (Frame.of_grown (grown_set w6 gb 21 (.slice A8 (N + 1) c8)) b6 hB (by simp)))
  have fr17 : Frame w1 (w6.setCell ⟨gb, 21, none⟩ (.slice A8 (N + 1) c8)) B [51, 26] := (Frame.of_own hg6 (own_less U1 (Nat.le_refl _)) (by simp)).trans (Frame.of_grown (grown_set w6 gb 21 (.slice A8 (N + 1) c8)) b6 hB (by simp))
  have ch57 : Ch [some gb, Value.ownBlock (.slice Aw N cw)] w5 (w6.setCell ⟨gb, 21, none⟩ (.slice A8 (N + 1) c8)) := (Ch.of_stays hs1 _).trans ((Ch.of_grown hg6 (by simp)).trans (Ch.of_grown (grown_set w6 gb 21 (.slice A8 (N + 1) c8)) (by simp)))
  have hb7 : Blk (w6.setCell ⟨gb, 21, none⟩ (.slice A8 (N + 1) c8)) gb 51 (bookCells tx tw (.slice AV (N + 1) cV) (.slice A8 (N + 1) c8)) := b6.set_ 21 (.slice A8 (N + 1) c8)
  have B7 := Lib.hid hb7
  have F7 := Lib.hid fr7
  have K7 : Hid (KeptL (w6.setCell ⟨gb, 21, none⟩ (.slice A8 (N + 1) c8)) B (N + 1) (.slice AV (N + 1) cV) (addAt v N (.slice Ax lx.length cx)) (addAt l N lx)) := Lib.hid ⟨own_ch K5.out.outer ch57 (fun g hg => by
    simp only [List.mem_cons, List.not_mem_nil, or_false, not_or]
    exact ⟨fun e => own_ne K5.out.outer B5.out (by decide) (by rw [hg, e]), fun e => N5.out g hg e.symm⟩), fun i hi => own_frame (K5.out.own i hi) fr57 (by decide), K5.out.apart, K5.out.few⟩
  have U7 : Hid (KeptL (w6.setCell ⟨gb, 21, none⟩ (.slice A8 (N + 1) c8)) B (N + 1) (.slice A8 (N + 1) c8) (addAt u N (vs 6)) (addAt l N lx)) := by
    refine Lib.hid (Kept.snoc U5.out (own_grown ho6 (grown_set w6 gb 21 (.slice A8 (N + 1) c8)) (own_ne ho6 b6 (by decide))) (fun i hi => own_frame (U5.out.own i hi) fr57 (by decide)) (own_frame (own_less hx1 (by have := B5.out.lt; omega)) fr17 (by decide)) (fun i g hi hg e => ?_) hf)
    have h1 := (World.ownsRow.lt hx1 g e).1
    have h2 := (World.ownsRow.lt (U5.out.own i hi) g hg).2
    omega
  have N7 : Hid (∀ g, (Value.slice AV (N + 1) cV).ownBlock = some g → (Value.slice A8 (N + 1) c8).ownBlock ≠ some g) := Lib.hid fun g hg e => by
    rw [e8] at ha6
    rcases ha6 with h1 | h1
    · exact N5.out g hg (by rw [← h1, e])
    · have h2 := (World.ownsRow.lt K5.out.outer g hg).2
      rw [e] at h1
      have : g = w1.heap.size := by simpa using h1
      have := hs1.size
      omega
  have E8 := Lib.hid e8
  clear e8 hI6 hs1 hx1 ho6 hg6 b1 b6 U1 fr7 fr57 fr17 ch57 hb7
  intro KK hKK
  rw [E8.out]
  simp only [List.drop_succ_cons, List.drop_zero]
  go_wp2
  go_end0
  exact ⟨rfl, _, _, _, B7.out, K7.out, U7.out, N7.out, F7.out⟩
end Go.Proofs.YtemjipongehjlaaGreat
/- As bookTexts, for a list of which it is known that it lies apart. -/
namespace Go.Proofs.YtemjipongehjlaaGreat
set_option linter.unusedVariables false
open Go.RowKit Go.BigFrame
set_option maxRecDepth 100000 in
set_option maxHeartbeats 4000000 in
theorem bookTexts2_any (gb B C : Nat) (ox ow lg lw x : Value) (N : Nat) (lx : List ByteArray) (v u : Nat → Value) (l : Nat → List ByteArray) (w : World)
    (hb : Blk w gb 51 (bookCells lg lw ox ow)) (hK : KeptS w B N lg v l) (hU : KeptS w B N lw u l) (hne : ∀ g, lg.ownBlock = some g → lw.ownBlock ≠ some g)
    (hx : w.ownsRow C 9 1 x lx.length (lx.flatMap strCells)) (hC : ∀ i g, i < N → (v i).ownBlock = some g → x.ownBlock ≠ some g) (hN : N < 250) (hf : lx.length ≤ 1000) (hB : B ≤ gb) (hBC : B ≤ C) :
    Calls Tryz.prog 26 #[.pointer (some ⟨gb, 0, none⟩), x] w (GivesBookS w gb B ox ow N x lx v u l) := by
  obtain ⟨i0, hi0, hz0, hs0, hb0⟩ := info_parts infoSs
  have hBw : B ≤ w.heap.size := Nat.le_trans hB (Nat.le_of_lt hb.lt)
  obtain ⟨Ax, cx, rfl, hxn⟩ := own_slice hx
  obtain ⟨Ag, cg, rfl, _⟩ := own_slice hK.outer
  obtain ⟨Aw, cw, rfl, _⟩ := own_slice hU.outer
  have hgl := own_ne hK.outer hb (by decide)
  have hgw := own_ne hU.outer hb (by decide)
  have c20 : w.cell? ⟨gb, 0, none⟩ = some (.slice Ag N cg) := by rw [hb.cell]; rfl
  have HB := Lib.hid hb
  have HK := Lib.hid hK
  have HU := Lib.hid hU
  have HX := Lib.hid hx
  have HC := Lib.hid hC
  have HNE := Lib.hid hne
  have HGL := Lib.hid hgl
  have HGW := Lib.hid hgw
  have HXN := Lib.hid hxn
  have t0 : decide ((N : Int) < 250) = true := by simp; omega
  clear hb hK hU hx hC hne hgl hgw hxn
  go_enter Tryz.func26, Tryz.ntmps26
  go_wp2_with (at_builtin; refine wpList_append_own_at (w.alloc (.cells #[.slice Ax lx.length cx] 29)) rfl (.tmp 14) (.tmp 16) 33 rfl B 29 i0 (.slice none 0 0) 1 24 Tryz.underlying33 hi0 hz0 hs0 hb0 rfl (by omega) (.slice Ag N cg) N ((List.range N).map v) rfl (own_stays HK.out.outer (Stays.alloc _ _)) ⟨w.heap.size, 0, none⟩ 1 1 [.slice Ax lx.length cx] rfl rfl (cell_one_new _ _ _) (by simp [Value.oneCell']) (by unfold maxLen; omega) (by omega) (by simp; omega) ?_; intro V' w4 hown4 hgr4 _ hat; obtain ⟨AV, cV, rfl, _⟩ := own_slice hown4; have g4 := (Stays.alloc w (.cells #[.slice Ax lx.length cx] 29)).grown (Value.ownBlock (.slice Ag N cg)); have hb4 := HB.out.grown (g4.trans hgr4) (fun e => HGL.out e.symm); have B4 := Lib.hid hb4; have fz4 := hb4.frozen 0; have c204 : w4.cell? ⟨gb, 0, none⟩ = some (.slice Ag N cg) := (hb4.cell 0).trans rfl; have O4 := Lib.hid hown4; have G4 := Lib.hid (g4.trans hgr4); have HAT := Lib.hid hat; clear hown4 hgr4 g4 hb4 c20 hat)
  have ch5 : Ch [some gb, Value.ownBlock (.slice Ag N cg)] w (w4.setCell ⟨gb, 0, none⟩ (.slice AV (N + 1) cV)) := (Ch.of_grown G4.out (by simp)).trans (Ch.of_grown (grown_set w4 gb 0 (.slice AV (N + 1) cV)) (by simp))
  have fr5 : Frame w (w4.setCell ⟨gb, 0, none⟩ (.slice AV (N + 1) cV)) B [51, 29] := (Frame.of_own G4.out (own_less HK.out.outer (Nat.le_refl _)) (by simp)).trans (Frame.of_grown (grown_set w4 gb 0 (.slice AV (N + 1) cV)) B4.out hB (by simp))
  have hb5 : Blk (w4.setCell ⟨gb, 0, none⟩ (.slice AV (N + 1) cV)) gb 51 (bookCells (.slice AV (N + 1) cV) (.slice Aw N cw) ox ow) := B4.out.set_ 0 (.slice AV (N + 1) cV)
  have hk5 : KeptS (w4.setCell ⟨gb, 0, none⟩ (.slice AV (N + 1) cV)) B (N + 1) (.slice AV (N + 1) cV) (addAt v N (.slice Ax lx.length cx)) (addAt l N lx) := by
    refine Kept.snoc HK.out (own_grown O4.out (grown_set w4 gb 0 (.slice AV (N + 1) cV)) (own_ne O4.out B4.out (by decide))) (fun i hi => own_frame (HK.out.own i hi) fr5 (by decide)) (own_frame (own_less HX.out hBC) fr5 (by decide)) (fun i g hi hg e => ?_) hf
    exact HC.out i g hi hg e
  have hu5 : KeptS (w4.setCell ⟨gb, 0, none⟩ (.slice AV (N + 1) cV)) B N (.slice Aw N cw) u l := by
    refine ⟨own_ch HU.out.outer ch5 (fun g hg => ?_), fun i hi => own_frame (HU.out.own i hi) fr5 (by decide), HU.out.apart, HU.out.few⟩
    simp only [List.mem_cons, List.not_mem_nil, or_false, not_or]
    exact ⟨fun e => HGW.out (by rw [hg, e]), fun e => HNE.out g e.symm hg⟩
  have hx5 : World.ownsRow (w4.setCell ⟨gb, 0, none⟩ (.slice AV (N + 1) cV)) C 9 1 (.slice Ax lx.length cx) lx.length (lx.flatMap strCells) := own_frame HX.out fr5 (by decide)
  have hne5 : ∀ g, (Value.slice AV (N + 1) cV).ownBlock = some g → (Value.slice Aw N cw).ownBlock ≠ some g := fun g hg e => by
    rcases HAT.out with h1 | h1
    · exact HNE.out g (by rw [← h1, hg]) e
    · rw [hg] at h1
      have h2 := (World.ownsRow.lt HU.out.outer g e).2
      have : g = w.heap.size + 1 := by simpa using h1
      omega
  have K5 := Lib.hid hk5
  have U5 := Lib.hid hu5
  have X5 := Lib.hid hx5
  have N5 := Lib.hid hne5
  have F5 := Lib.hid fr5
  have B5 := Lib.hid hb5
  clear ch5 hb5 hk5 hu5 hx5 hne5 fr5 fz4 c204
  generalize w4.setCell ⟨gb, 0, none⟩ (.slice AV (N + 1) cV) = w5 at *
  refine wp_region_genC 9 [6, 7, 8] (AddI w5 B 29 (.slice Aw N cw) N ((List.range N).map u) 9 1 lx.length (lx.flatMap strCells)) (by kernel_rfl) (by kernel_rfl) AddI.start ?_
  apply wpGenC_pure rfl
  · intro L vs wx hI hC hR hL K hK
    go_simp
    exact hK _ (hI.pure (by decide) (by decide) (by decide))
  intro KK hKK
  go_simp
  refine hKK _ ?_
  clear hKK KK
  apply wpGenC_pure rfl
  · intro L vs wx hI hC hR hL K hK
    go_simp
    exact hK _ (hI.pure (by decide) (by decide) (by decide))
  intro KK hKK
  go_simp
  refine hKK _ ?_
  clear hKK KK
  apply wpGenC_pure rfl
  · intro L vs wx hI hC hR hL K hK
    go_simp
    exact hK _ (hI.pure (by decide) (by decide) (by decide))
  intro KK hKK
  go_simp
  refine hKK _ ?_
  clear hKK KK
  apply wpGenC_pure rfl
  · intro L vs wx hI hC hR hL K hK
    go_simp
    exact hK _ (hI.pure (by decide) (by decide) (by decide))
  intro KK hKK
  go_simp
  refine hKK _ ?_
  clear hKK KK
  apply wpGenC_pure rfl
  · intro L vs wx hI hC hR hL K hK
    have h8 : L 8 = false := hC.off hL (by kernel_rfl)
    have c21 : wx.cell? ⟨gb, 1, none⟩ = some (.slice Aw N cw) := ((B5.out.stays (hI.st h8)).cell 1).trans rfl
    go_simp
    exact hK _ (hI.pure (by decide) (by decide) (by decide))
  intro KK hKK
  go_simp
  refine hKK _ ?_
  clear hKK KK
  apply wpGenC_pure rfl
  · intro L vs wx hI hC hR hL K hK
    go_simp
    exact hK _ (hI.pure (by decide) (by decide) (by decide))
  intro KK hKK
  go_simp
  refine hKK _ ?_
  clear hKK KK
  refine wpGenC_fact rfl ?_ ?_
  · intro L vs wx hI hC hR hL K hK
    have h7 : L 7 = false := hC.off hL (by kernel_rfl)
    have h8 : L 8 = false := hC.off hL (by kernel_rfl)
    have hs := hI.st h8
    go_simp
    refine (copyTexts_any Ax lx.length cx lx wx.heap.size wx (strs_of (own_stays X5.out hs)) HXN.out (by omega)).mono ?_
    rintro e w' ⟨v6, rfl, ho6, hb6⟩
    exact ⟨_, rfl, hK _ _ (hI.op6 h7 h8 hb6 (own_less (OwnS.flat ho6) hs.size))⟩
  intro KK hKK
  go_simp
  refine hKK _ ?_
  clear hKK KK
  refine wpGenC_fact rfl ?_ ?_
  · intro L vs wx hI hC hR hL K hK
    have h6 := hR 6 (by kernel_rfl)
    have h8 : L 8 = false := hC.off hL (by kernel_rfl)
    obtain ⟨A6, c6, e6, _⟩ := own_slice (hI.six h6 h8)
    rw [e6]
    go_simp
    rw [← e6]
    exact hK _ _ (hI.op7 h6 h8)
  intro KK hKK
  go_simp
  refine hKK _ ?_
  clear hKK KK
  refine wpGenC_fact rfl ?_ ?_
  · intro L vs wx hI hC hR hL K hK
    have h6 := hR 6 (by kernel_rfl)
    have h7 := hR 7 (by kernel_rfl)
    obtain ⟨g7, e7, hk7⟩ := hI.seven h7 hL
    have hs := hI.st hL
    obtain ⟨v', w', hr, ho, hg, _, ha⟩ := run_append_own_at (P := Tryz.prog) wx B 33 33 29 i0 (.slice none 0 0) 1 24 Tryz.underlying33 hi0 hz0 hs0 hb0 rfl (by omega) (.slice Aw N cw) N ((List.range N).map u) (own_stays U5.out.outer hs) ⟨g7, 0, none⟩ 1 1 [vs 6] rfl (fun j z hz => by
      match j, hz with
      | 0, hz =>
        cases hz
        rw [Addr.add_lit, Nat.zero_add, hk7.cell]
        rfl) (fun z hz => by simp at hz; subst hz; exact own_one (hI.six h6 hL)) (by unfold maxLen; omega) (by omega) (by have := hs.size; have := B5.out.lt; omega)
    exact stepF_append rfl (.tmp 24) (.tmp 27) 33 rfl rfl (by rw [← e7]; rfl) hr (hK _ _ (hI.op8 h6 hL ho hg ha))
  intro KK hKK
  go_simp
  refine hKK _ ?_
  clear hKK KK
  refine wpGenC_nil ?_
  intro vs w6 hI6
  obtain ⟨w1, hs1, hx1, ho6, hg6, ha6⟩ := hI6.eight (by decide)
  have b1 := B5.out.stays hs1
  have b6 := b1.grown hg6 (fun e => HGW.out e.symm)
  have U1 := own_stays U5.out.outer hs1
  obtain ⟨A8, c8, e8, _⟩ := own_slice ho6
  rw [e8] at ho6
  have c21 : w6.cell? ⟨gb, 1, none⟩ = some (.slice Aw N cw) := (b6.cell 1).trans rfl
  have f21 := b6.frozen 1
  have fr7 : Frame w (w6.setCell ⟨gb, 1, none⟩ (.slice A8 (N + 1) c8)) B [51, 29] := F5.out.trans ((Frame.of_stays hs1 _ _).trans ((Frame.of_own hg6 (own_less U1 (Nat.le_refl _)) (by simp)).trans (Frame.of_grown (grown_set w6 gb 1 (.slice A8 (N + 1) c8)) b6 hB (by simp))))
  have fr57 : Frame w5 (w6.setCell ⟨gb, 1, none⟩ (.slice A8 (N + 1) c8)) B [51, 29] := (Frame.of_stays hs1 _ _).trans ((Frame.of_own hg6 (own_less U1 (Nat.le_refl _)) (by simp)).trans (Frame.of_grown (grown_set w6 gb 1 (.slice A8 (N + 1) c8)) b6 hB (by simp)))
  have fr17 : Frame w1 (w6.setCell ⟨gb, 1, none⟩ (.slice A8 (N + 1) c8)) B [51, 29] := (Frame.of_own hg6 (own_less U1 (Nat.le_refl _)) (by simp)).trans (Frame.of_grown (grown_set w6 gb 1 (.slice A8 (N + 1) c8)) b6 hB (by simp))
  have ch57 : Ch [some gb, Value.ownBlock (.slice Aw N cw)] w5 (w6.setCell ⟨gb, 1, none⟩ (.slice A8 (N + 1) c8)) := (Ch.of_stays hs1 _).trans ((Ch.of_grown hg6 (by simp)).trans (Ch.of_grown (grown_set w6 gb 1 (.slice A8 (N + 1) c8)) (by simp)))
  have hb7 : Blk (w6.setCell ⟨gb, 1, none⟩ (.slice A8 (N + 1) c8)) gb 51 (bookCells (.slice AV (N + 1) cV) (.slice A8 (N + 1) c8) ox ow) := b6.set_ 1 (.slice A8 (N + 1) c8)
  have B7 := Lib.hid hb7
  have F7 := Lib.hid fr7
  have K7 : Hid (KeptS (w6.setCell ⟨gb, 1, none⟩ (.slice A8 (N + 1) c8)) B (N + 1) (.slice AV (N + 1) cV) (addAt v N (.slice Ax lx.length cx)) (addAt l N lx)) := Lib.hid ⟨own_ch K5.out.outer ch57 (fun g hg => by
    simp only [List.mem_cons, List.not_mem_nil, or_false, not_or]
    exact ⟨fun e => own_ne K5.out.outer B5.out (by decide) (by rw [hg, e]), fun e => N5.out g hg e.symm⟩), fun i hi => own_frame (K5.out.own i hi) fr57 (by decide), K5.out.apart, K5.out.few⟩
  have U7 : Hid (KeptS (w6.setCell ⟨gb, 1, none⟩ (.slice A8 (N + 1) c8)) B (N + 1) (.slice A8 (N + 1) c8) (addAt u N (vs 6)) (addAt l N lx)) := by
    refine Lib.hid (Kept.snoc U5.out (own_grown ho6 (grown_set w6 gb 1 (.slice A8 (N + 1) c8)) (own_ne ho6 b6 (by decide))) (fun i hi => own_frame (U5.out.own i hi) fr57 (by decide)) (own_frame (own_less hx1 (by have := B5.out.lt; omega)) fr17 (by decide)) (fun i g hi hg e => ?_) hf)
    have h1 := (World.ownsRow.lt hx1 g e).1
    have h2 := (World.ownsRow.lt (U5.out.own i hi) g hg).2
    omega
  have N7 : Hid (∀ g, (Value.slice AV (N + 1) cV).ownBlock = some g → (Value.slice A8 (N + 1) c8).ownBlock ≠ some g) := Lib.hid fun g hg e => by
    rw [e8] at ha6
    rcases ha6 with h1 | h1
    · exact N5.out g hg (by rw [← h1, e])
    · have h2 := (World.ownsRow.lt K5.out.outer g hg).2
      rw [e] at h1
      have : g = w1.heap.size := by simpa using h1
      have := hs1.size
      omega
  have E8 := Lib.hid e8
  clear e8 hI6 hs1 hx1 ho6 hg6 b1 b6 U1 fr7 fr57 fr17 ch57 hb7
  intro KK hKK
  rw [E8.out]
  simp only [List.drop_succ_cons, List.drop_zero]
  go_wp2
  go_end0
  exact ⟨rfl, _, _, _, B7.out, K7.out, U7.out, N7.out, F7.out⟩
end Go.Proofs.YtemjipongehjlaaGreat
/- What prune.Sent returns. -/
namespace Go.Proofs.YtemjipongehjlaaGreat
set_option linter.unusedVariables false
open Go.RowKit Go.BigFrame
set_option maxRecDepth 100000 in
set_option maxHeartbeats 2000000 in
theorem sent_any (cn cd cpre cfil ctr : ByteArray) (cf : Bool) (cpt crt : Int) (D : Option Addr) (n dc : Nat) (ds : List P.Dest) (id run tm st dn flt : Int) (raw : ByteArray) (A : Option Addr) (m cp : Nat) (ls : List P.Leg) (dest reply : ByteArray) (now : Int) (B : Nat) (w : World)
    (h : LegsAt w B A m ls) (hd : DestsAt w B D n ds) (hB : B ≤ w.heap.size) (hm : m ≤ 1099511627776) (hn : n ≤ 1099511627776) (hw : ∀ d ∈ ds, (Lit.int .i64 d.chain).wf = true) (ht : ∀ l ∈ ls, (Lit.int .i64 l.tries).wf = true) (hr : reply.size ≤ maxLen) :
    Calls Tryz.prog 11 #[.agg #[.string cn, .bool cf, .int .i64 cpt, .string cd, .string cpre, .string cfil, .string ctr, .slice D n dc, .int .i64 crt], .agg #[.int .i64 id, .int .i64 run, .int .i64 tm, .int .i64 st, .int .i64 dn, .string raw, .int .i64 flt, .slice A m cp], .string dest, .string reply, .int .i64 now] w (GivesR w id run tm st (P.doneOf st ds ls (P.turned P.sentLeg st ds ls dest reply) dest dn now) flt raw (P.turned P.sentLeg st ds ls dest reply)) := by
  have hb := (((Below.refl w.heap.size w).alloc (Nat.le_refl _) (.cells #[.string cn, .bool cf, .int .i64 cpt, .string cd, .string cpre, .string cfil, .string ctr, .slice D n dc, .int .i64 crt] 24)).alloc (by simp) (.cells #[.int .i64 id, .int .i64 run, .int .i64 tm, .int .i64 st, .int .i64 dn, .string raw, .int .i64 flt, .slice A m cp] 28)).alloc (by simp; omega) (.cells #[.int .i64 0, .int .i64 0, .int .i64 0, .int .i64 0, .int .i64 0, .string ⟨#[]⟩, .int .i64 0, .slice none 0 0] 28)
  have k3 := Blk.new ((w.alloc (.cells #[.string cn, .bool cf, .int .i64 cpt, .string cd, .string cpre, .string cfil, .string ctr, .slice D n dc, .int .i64 crt] 24)).alloc (.cells #[.int .i64 id, .int .i64 run, .int .i64 tm, .int .i64 st, .int .i64 dn, .string raw, .int .i64 flt, .slice A m cp] 28)) 28 #[.int .i64 0, .int .i64 0, .int .i64 0, .int .i64 0, .int .i64 0, .string ⟨#[]⟩, .int .i64 0, .slice none 0 0]
  rw [show ((w.alloc (.cells #[.string cn, .bool cf, .int .i64 cpt, .string cd, .string cpre, .string cfil, .string ctr, .slice D n dc, .int .i64 crt] 24)).alloc (.cells #[.int .i64 id, .int .i64 run, .int .i64 tm, .int .i64 st, .int .i64 dn, .string raw, .int .i64 flt, .slice A m cp] 28)).heap.size = w.heap.size + 2 from by simp] at k3
  have hz : (((w.alloc (.cells #[.string cn, .bool cf, .int .i64 cpt, .string cd, .string cpre, .string cfil, .string ctr, .slice D n dc, .int .i64 crt] 24)).alloc (.cells #[.int .i64 id, .int .i64 run, .int .i64 tm, .int .i64 st, .int .i64 dn, .string raw, .int .i64 flt, .slice A m cp] 28)).alloc (.cells #[.int .i64 0, .int .i64 0, .int .i64 0, .int .i64 0, .int .i64 0, .string ⟨#[]⟩, .int .i64 0, .slice none 0 0] 28)).heap.size = w.heap.size + 3 := by simp
  have KC := Lib.hid (movedSent_any cn cd cpre cfil ctr cf cpt crt D n dc ds id run tm st dn flt raw A m cp ls dest reply now B _ (h.below (hb.mono hB)) (hd.below (hb.mono hB)) (Nat.le_trans hB hb.size) hm hn hw ht hr)
  have HB := Lib.hid hb
  have K3 := Lib.hid k3
  have HZ := Lib.hid hz
  clear h hd hw ht k3 hb hz
  generalize P.doneOf st ds ls (P.turned P.sentLeg st ds ls dest reply) dest dn now = dn2 at *
  generalize P.turned P.sentLeg st ds ls dest reply = ls2 at *
  go_enter Tryz.func11, Tryz.ntmps11
  go_wp2_with fail
  refine KC.out.mono ?_
  rintro x w2 ⟨v, rfl, hown, hb2⟩
  obtain ⟨A2, c2, rfl, -⟩ := hown.reads
  rw [HZ.out] at hown
  have c3 := fun i => (K3.out.below hb2 K3.out.lt).cell i
  have f3 := fun i => (K3.out.below hb2 K3.out.lt).frozen i
  have B2 := Lib.hid (HB.out.trans (hb2.mono HB.out.size))
  have OW := Lib.hid hown
  clear hb2 hown
  go_wp2
  refine bodyPost_ret (v := .agg #[.int .i64 id, .int .i64 run, .int .i64 tm, .int .i64 st, .int .i64 dn2, .string raw, .int .i64 flt, .slice A2 ls2.length c2]) (by simp [results, Tryz.results11, go_sem, c3]) rfl ⟨_, rfl, ?_, ?_⟩
  · refine OwnL.less (B := w.heap.size + 3) ?_ (by omega)
    repeat (refine OwnL.far ?_ (by simp) _)
    exact OW.out
  · repeat (refine Below.setCell ?_ (by simp; omega) _)
    exact B2.out
end Go.Proofs.YtemjipongehjlaaGreat
/- What prune.Forward returns: whether a row may stand where another one stood. -/
namespace Go.Proofs.YtemjipongehjlaaGreat
set_option linter.unusedVariables false
open Go.RowKit Go.BigFrame
/-- What a leg may become. -/
def MayGo (z : Value) : Prop := ∃ x y : Int, (x = 1 ∨ x = 2) ∧ (y = 2 ∨ y = 3 ∨ y = 4 ∨ y = 0) ∧ z = .agg #[.int .i64 x, .int .i64 y]
def Fst (i : Nat) (j : Nat) (z : Value) : Prop := ∃ a b : Nat, a < 2 ∧ b < 4 ∧ (a < i ∨ (a = i ∧ b < j)) ∧ z = .agg #[.int .i64 ([1, 2].getD a 0), .int .i64 ([2, 3, 4, 0].getD b 0)]
theorem fst_zero (z : Value) : Fst 0 0 z ↔ False := by
  unfold Fst
  constructor
  · rintro ⟨a, b, _, _, h | ⟨_, h⟩, _⟩ <;> omega
  · intro h; exact h.elim
theorem fst_next (i : Nat) (z : Value) : Fst i 4 z ↔ Fst (i + 1) 0 z := by
  unfold Fst
  constructor
  · rintro ⟨a, b, ha, hb, h, e⟩
    exact ⟨a, b, ha, hb, by omega, e⟩
  · rintro ⟨a, b, ha, hb, h, e⟩
    exact ⟨a, b, ha, hb, by omega, e⟩
theorem fst_put (i j : Nat) (hi : i < 2) (hj : j < 4) (z : Value) : (z = .agg #[.int .i64 ([1, 2].getD i 0), .int .i64 ([2, 3, 4, 0].getD j 0)] ∨ Fst i j z) ↔ Fst i (j + 1) z := by
  unfold Fst
  constructor
  · rintro (h | ⟨a, b, ha, hb, h, e⟩)
    · exact ⟨i, j, hi, hj, by omega, h⟩
    · exact ⟨a, b, ha, hb, by omega, e⟩
  · rintro ⟨a, b, ha, hb, h, e⟩
    by_cases hab : a = i ∧ b = j
    · obtain ⟨rfl, rfl⟩ := hab
      exact Or.inl e
    · exact Or.inr ⟨a, b, ha, hb, by omega, e⟩
theorem fst_all (z : Value) : Fst 2 0 z ↔ MayGo z := by
  unfold Fst MayGo
  constructor
  · rintro ⟨a, b, ha, hb, h, e⟩
    refine ⟨_, _, ?_, ?_, e⟩
    · rcases (by omega : a = 0 ∨ a = 1) with rfl | rfl <;> simp
    · rcases (by omega : b = 0 ∨ b = 1 ∨ b = 2 ∨ b = 3) with rfl | rfl | rfl | rfl <;> simp
  · rintro ⟨x, y, hx, hy, e⟩
    obtain ⟨a, ha, ea⟩ : ∃ a, a < 2 ∧ [1, 2].getD a 0 = x := by rcases hx with rfl | rfl; exact ⟨0, by omega, rfl⟩; exact ⟨1, by omega, rfl⟩
    obtain ⟨b, hb, eb⟩ : ∃ b, b < 4 ∧ [2, 3, 4, 0].getD b 0 = y := by
      rcases hy with rfl | rfl | rfl | rfl
      · exact ⟨0, by omega, rfl⟩
      · exact ⟨1, by omega, rfl⟩
      · exact ⟨2, by omega, rfl⟩
      · exact ⟨3, by omega, rfl⟩
    exact ⟨a, b, ha, hb, Or.inl ha, by rw [ea, eb]; exact e⟩
/-- The call hands back a set; what was there stands. -/
def GivesM (w : World) (S : Value → Prop) (x : Ending) (w' : World) : Prop := ∃ b n, x = .returned (.map (some b)) ∧ SetIs w' 128 b n S ∧ w.heap.size ≤ b ∧ Below w.heap.size w w'
theorem ix2 (W : World) (n : Nat) (hn : n < 2) : (Instr.index 128 (.agg #[.int .i64 1, .int .i64 2]) (.int .i64 (n : Int))).run Tryz.prog W = .ok (.int .i64 ([1, 2].getD n 0)) W := by
  rcases (by omega : n = 0 ∨ n = 1) with rfl | rfl <;> kernel_rfl
theorem ix4 (W : World) (n : Nat) (hn : n < 4) : (Instr.index 196 (.agg #[.int .i64 2, .int .i64 3, .int .i64 4, .int .i64 0]) (.int .i64 (n : Int))).run Tryz.prog W = .ok (.int .i64 ([2, 3, 4, 0].getD n 0)) W := by
  rcases (by omega : n = 0 ∨ n = 1 ∨ n = 2 ∨ n = 3) with rfl | rfl | rfl | rfl <;> kernel_rfl
theorem wf_small {x : Int} (h : 0 ≤ x ∧ x ≤ 4) : (Lit.int .i64 x).wf = true := by
  rcases (by omega : x = 0 ∨ x = 1 ∨ x = 2 ∨ x = 3 ∨ x = 4) with rfl | rfl | rfl | rfl | rfl <;> decide
set_option maxRecDepth 100000 in
set_option maxHeartbeats 2000000 in
theorem goes_any (w : World) : Calls Tryz.prog 118 #[] w (GivesM w MayGo) := by
  have hmm := @run_makeMap Tryz.prog
  have hst := SetIs.made w 128
  have ST := Lib.hid (hst.say (S' := Fst 0 0) (fun v => (fst_zero v).symm))
  have WB := Lib.hid ((Below.refl w.heap.size w).alloc (Nat.le_refl _) (.map #[] 0))
  clear hst
  go_enter Tryz.func118, Tryz.ntmps118
  go_wp2_with fail
  go_loopw [8] (fun x wr => ∃ i : Nat, i ≤ 2 ∧ x = .int .i64 i ∧ SetIs wr 128 w.heap.size (4 * i) (Fst i 0) ∧ w.heap.size < wr.heap.size ∧ Below w.heap.size w wr) (fun x _ => 2 - (intOf x).toNat)
  case atStart => exact ⟨0, by omega, rfl, ST.out, by simp, WB.out⟩
  case round =>
    obtain ⟨i, hi, rfl, hset, hsz, hbel⟩ := hrel
    by_cases hlt : i < 2
    · have h2 := fun W => ix2 W i hlt
      have hdi : decide ((i : Int) < 2) = true := decide_eq_true (by omega)
      have hx : (0 : Int) ≤ ([1, 2] : List Int).getD i 0 ∧ ([1, 2] : List Int).getD i 0 ≤ 4 := by rcases (by omega : i = 0 ∨ i = 1) with rfl | rfl <;> decide
      have SB := Lib.hid hset
      have BB := Lib.hid hbel
      clear hset hbel
      have hfp := Lib.hid (fun j (hj : j < 4) z => fst_put i j hlt hj z)
      have hwx := wf_small hx
      generalize ([1, 2] : List Int).getD i 0 = x at *
      go_wp2_with fail
      go_loopw [12] (fun y wr => ∃ j : Nat, j ≤ 4 ∧ y = .int .i64 j ∧ SetIs wr 128 w.heap.size (4 * i + j) (Fst i j) ∧ w.heap.size < wr.heap.size ∧ Below w.heap.size w wr) (fun y _ => 4 - (intOf y).toNat)
      case atStart => exact ⟨0, by omega, rfl, SB.out, hsz, BB.out⟩
      case round =>
        obtain ⟨j, hj, rfl, hset, hsz, hbel⟩ := hrel
        by_cases hjt : j < 4
        · have h4 := fun W => ix4 W j hjt
          have hdj : decide ((j : Int) < 4) = true := decide_eq_true (by omega)
          have hy : (0 : Int) ≤ ([2, 3, 4, 0] : List Int).getD j 0 ∧ ([2, 3, 4, 0] : List Int).getD j 0 ≤ 4 := by rcases (by omega : j = 0 ∨ j = 1 ∨ j = 2 ∨ j = 3) with rfl | rfl | rfl | rfl <;> decide
          have hpz := Lib.hid (hfp.out j hjt)
          have hkey := key2 hwx (wf_small hy)
          generalize ([2, 3, 4, 0] : List Int).getD j 0 = y at *
          go_wp2_with (at_mapUpdate; refine wpList_set_put rfl (.tmp 15) (.tmp 18) (.tmp 19) 125 128 rfl law2 Tryz.underlying125 w.heap.size (4 * i + j) _ rfl hset (by unfold maxLen; omega) _ _ rfl rfl hkey ?_; intro w5 hset5 hg5)
          have W5 := Lib.hid (hbel.grown hg5 hbel.size (fun k hk => by cases hk; omega))
          have Z5 := Lib.hid (show w.heap.size < w5.heap.size from Nat.lt_of_lt_of_le hsz hg5.size)
          have S5 := Lib.hid (hset5.say (S' := Fst i (j + 1)) hpz.out)
          clear hg5 hset5
          go_roundw
          case rel => exact ⟨j + 1, by omega, by go_num, S5.out.mono (by omega), Z5.out, W5.out⟩
          case measure => simp [intOf]; omega
        · have hj4 : j = 4 := by omega
          subst hj4
          have S5 := Lib.hid ((hset.say (S' := Fst (i + 1) 0) (fst_next i)).mono (n' := 4 * (i + 1)) (by omega))
          clear hset
          go_wp2
          go_roundw
          case rel => exact ⟨i + 1, by omega, by go_num, S5.out, hsz, hbel⟩
          case measure => simp [intOf]; omega
    · have hi2 : i = 2 := by omega
      subst hi2
      have S5 := Lib.hid (hset.say (S' := MayGo) fst_all)
      clear hset
      go_wp2
      go_ret
      exact ⟨_, _, rfl, S5.out, Nat.le_refl _, hbel⟩
end Go.Proofs.YtemjipongehjlaaGreat
/- What prune.Forward returns: whether a row may stand where another one stood. -/
namespace Go.Proofs.YtemjipongehjlaaGreat
set_option linter.unusedVariables false
open Go.RowKit Go.BigFrame
namespace P
def goB (x y : Int) : Bool := (x == 1 || x == 2) && (y == 2 || y == 3 || y == 4 || y == 0)
theorem goB_iff (x y : Int) : goB x y = true ↔ MayGo (.agg #[.int .i64 x, .int .i64 y]) := by
  unfold goB MayGo
  constructor
  · intro h
    simp at h
    exact ⟨x, y, h.1, by omega, rfl⟩
  · rintro ⟨x', y', hx, hy, e⟩
    cases e
    simp
    exact ⟨hx, by omega⟩
theorem mayLeg_eq (x y : Leg) : mayLeg x y = ((x.name.toList == y.name.toList) && (x.status == y.status || (goB x.status y.status && decide (x.tries ≤ y.tries)))) := by
  unfold mayLeg goB
  rw [ByteArray.toList_eq, ByteArray.toList_eq]
  cases (x.name.data.toList == y.name.data.toList) <;> cases (x.status == y.status) <;> cases (x.status == 1) <;> cases (x.status == 2) <;> cases (y.status == 2) <;> cases (y.status == 3) <;> cases (y.status == 4) <;> cases (y.status == 0) <;> rfl
end P
set_option maxRecDepth 100000 in
set_option maxHeartbeats 2000000 in
theorem fwd1_any (x y : P.Leg) (g b nn : Nat) (W : World) (hg : g < W.heap.size) (hc : W.cell? ⟨g, 0, none⟩ = some (.map (some b))) (hs : SetIs W 128 b nn MayGo) (hx : (Lit.int .i64 x.status).wf = true) (hy : (Lit.int .i64 y.status).wf = true) :
    Calls Tryz.prog 120 #[.agg #[.string x.name, .int .i64 x.status, .int .i64 x.tries, .int .i64 x.due, .string x.payload, .string x.reply], .agg #[.string y.name, .int .i64 y.status, .int .i64 y.tries, .int .i64 y.due, .string y.payload, .string y.reply], .pointer (some ⟨g, 0, none⟩)] W fun e w' => e = .returned (.bool (P.mayLeg x y)) ∧ Below W.heap.size W w' := by
  have hm := P.mayLeg_eq x y
  have hkey := key2 hx hy
  have hgo := P.goB_iff x.status y.status
  have S2 := Lib.hid ((hs.alloc (.cells #[.string x.name, .int .i64 x.status, .int .i64 x.tries, .int .i64 x.due, .string x.payload, .string x.reply] 69)).alloc (.cells #[.string y.name, .int .i64 y.status, .int .i64 y.tries, .int .i64 y.due, .string y.payload, .string y.reply] 69))
  have key : ((x.name.toList == y.name.toList) = false ∧ P.mayLeg x y = false) ∨ ((x.name.toList == y.name.toList) = true ∧ (x.status == y.status) = true ∧ P.mayLeg x y = true) ∨ ((x.name.toList == y.name.toList) = true ∧ (x.status == y.status) = false ∧ P.mayLeg x y = (P.goB x.status y.status && decide (x.tries ≤ y.tries))) := by
    rw [hm]
    cases (x.name.toList == y.name.toList) <;> cases (x.status == y.status) <;> simp
  have HG := Lib.hid hgo
  generalize P.mayLeg x y = r at *
  generalize P.goB x.status y.status = q at *
  clear hm hs hgo
  rcases key with ⟨t1, ht⟩ | ⟨t1, t2, ht⟩ | ⟨t1, t2, ht⟩
  · have HR := Lib.hid ht
    have t1' : (x.name.toList != y.name.toList) = true := by rw [bne, t1]; rfl
    clear ht
    go_enter Tryz.func120, Tryz.ntmps120
    go_wp2
    go_ret
    rw [HR.out]
    exact ⟨rfl, ((Below.refl _ _).alloc (Nat.le_refl _) _).alloc (by simp) _⟩
  · have HR := Lib.hid ht
    have t1' : (x.name.toList != y.name.toList) = false := by rw [bne, t1]; rfl
    clear ht
    go_enter Tryz.func120, Tryz.ntmps120
    go_wp2_with (at_lookup; refine wpList_set_lookup rfl (.tmp 14) (.tmp 19) 125 128 rfl law2 Tryz.underlying125 b nn _ rfl S2.out _ _ rfl hkey q HG.out ?_)
    go_ret
    rw [HR.out]
    exact ⟨rfl, (((Below.refl _ _).alloc (Nat.le_refl _) _).alloc (by simp) _).alloc (by simp; omega) _⟩
  · have HR := Lib.hid ht
    have t1' : (x.name.toList != y.name.toList) = false := by rw [bne, t1]; rfl
    clear ht
    cases q
    all_goals
      go_enter Tryz.func120, Tryz.ntmps120
      go_wp2_with (at_lookup; refine wpList_set_lookup rfl (.tmp 14) (.tmp 19) 125 128 rfl law2 Tryz.underlying125 b nn _ rfl S2.out _ _ rfl hkey _ HG.out ?_)
      go_ret
      rw [HR.out]
      exact ⟨rfl, (((Below.refl _ _).alloc (Nat.le_refl _) _).alloc (by simp) _).alloc (by simp; omega) _⟩
end Go.Proofs.YtemjipongehjlaaGreat
/- What slices.EqualFunc of legs, and prune.Forward return. -/
namespace Go.Proofs.YtemjipongehjlaaGreat
set_option linter.unusedVariables false
open Go.RowKit Go.BigFrame
namespace P
theorem mayLegs_len : ∀ {a b : List Leg}, a.length ≠ b.length → mayLegs a b = false
  | [], [], h => absurd rfl h
  | [], y :: b, _ => rfl
  | x :: a, [], _ => rfl
  | x :: a, y :: b, h => by
    rw [mayLegs, mayLegs_len (fun e => h (by simp [e]))]
    simp
end P
set_option maxRecDepth 100000 in
set_option maxHeartbeats 2000000 in
theorem equalFunc_any (A : Option Addr) (m cp : Nat) (la : List P.Leg) (Ab : Option Addr) (mb cpb : Nat) (lb : List P.Leg) (g b nn B : Nat) (w : World) (ha : LegsAt w B A m la) (hb : LegsAt w B Ab mb lb) (hB : B ≤ w.heap.size) (hm : m ≤ maxLen) (hmb : mb ≤ maxLen)
    (hg : g < w.heap.size) (hc : w.cell? ⟨g, 0, none⟩ = some (.map (some b))) (hs : SetIs w 128 b nn MayGo) (hx : ∀ l ∈ la, (Lit.int .i64 l.status).wf = true) (hy : ∀ l ∈ lb, (Lit.int .i64 l.status).wf = true) :
    Calls Tryz.prog 119 #[.slice A m cp, .slice Ab mb cpb, .func (.func 120) #[] #[.pointer (some ⟨g, 0, none⟩)]] w fun e w' => e = .returned (.bool (P.mayLegs la lb)) ∧ Below w.heap.size w w' := by
  unfold maxLen at hm hmb
  have HA := Lib.hid ha
  have HB := Lib.hid hb
  by_cases hl : m = mb
  · subst hl
    have K := Lib.hid (fun W (hW : Below w.heap.size w W) x y hx hy => fwd1_any x y g b nn W (Nat.lt_of_lt_of_le hg hW.size) ((hW.cell (p := ⟨g, 0, none⟩) hg).trans hc) (hs.below hW hs.lt) hx hy)
    have HX := Lib.hid hx
    have HY := Lib.hid hy
    have t0 : ((m : Int) != (m : Int)) = false := by simp
    clear ha hb hc hs hx hy
    go_enter Tryz.func119, Tryz.ntmps119
    go_wp2_with fail
    go_loopw [17] (fun x wr => ∃ k : Nat, k ≤ m ∧ x = .int .i64 k ∧ P.mayLegs (la.drop k) (lb.drop k) = P.mayLegs la lb ∧ Below w.heap.size w wr) (fun x _ => m - (intOf x).toNat)
    case atStart => exact ⟨0, by omega, rfl, rfl, Below.refl _ _⟩
    case round =>
      obtain ⟨k, hk, rfl, hmay, hbel⟩ := hrel
      by_cases hlt : k < m
      · obtain ⟨ad, x, rfl, hxb, hxk, hxc⟩ := (HA.out.below (hbel.mono hB)).in_ hlt
        obtain ⟨ad2, y, rfl, hyb, hyk, hyc⟩ := (HB.out.below (hbel.mono hB)).in_ hlt
        have hb1 : ((hbel.alloc hbel.size (.cells #[.string x.name, .int .i64 x.status, .int .i64 x.tries, .int .i64 x.due, .string x.payload, .string x.reply] 69))) = ((hbel.alloc hbel.size (.cells #[.string x.name, .int .i64 x.status, .int .i64 x.tries, .int .i64 x.due, .string x.payload, .string x.reply] 69))) := rfl
        obtain ⟨e0, e1, e2, e3, e4, e5⟩ := hyc.keep (w' := wr.alloc (.cells #[.string x.name, .int .i64 x.status, .int .i64 x.tries, .int .i64 x.due, .string x.payload, .string x.reply] 69)) ((Below.refl wr.heap.size wr).alloc (Nat.le_refl _) _) (by have := hbel.size; omega)
        obtain ⟨c0, c1, c2, c3, c4, c5⟩ := hxc
        have HM := Lib.hid (show P.mayLegs la lb = (P.mayLeg x y && P.mayLegs (la.drop (k + 1)) (lb.drop (k + 1))) from by rw [← hmay, P.drop_at hxk, P.drop_at hyk, P.mayLegs])
        have hwx := HX.out x (List.mem_of_getElem? hxk)
        have hwy := HY.out y (List.mem_of_getElem? hyk)
        have B2 := Lib.hid ((hbel.alloc hbel.size (.cells #[.string x.name, .int .i64 x.status, .int .i64 x.tries, .int .i64 x.due, .string x.payload, .string x.reply] 69)).alloc (by have := hbel.size; simp; omega) (.cells #[.string y.name, .int .i64 y.status, .int .i64 y.tries, .int .i64 y.due, .string y.payload, .string y.reply] 69))
        clear hmay hxk hyk hyc hb1
        go_wp2_with fail
        refine (K.out _ B2.out x y hwx hwy).mono ?_
        rintro e w3 ⟨rfl, hb3⟩
        have B3 := Lib.hid (bt'' B2.out hb3)
        clear hb3
        cases hr : P.mayLeg x y
        · have HR := Lib.hid (show P.mayLegs la lb = false from by rw [HM.out, hr]; rfl)
          clear hr
          go_wp2
          go_ret
          rw [HR.out]
          exact ⟨rfl, B3.out⟩
        · have HR := Lib.hid (show P.mayLegs (la.drop (k + 1)) (lb.drop (k + 1)) = P.mayLegs la lb from by rw [HM.out, hr]; rfl)
          clear hr
          go_wp2
          go_roundw
          case rel => exact ⟨k + 1, by omega, by go_num, HR.out, B3.out⟩
          case measure => simp [intOf]; omega
      · have HR := Lib.hid (show P.mayLegs la lb = true from by rw [← hmay, List.drop_eq_nil_of_le (by have := HA.out.len; omega), List.drop_eq_nil_of_le (by have := HB.out.len; omega)]; rfl)
        clear hmay
        go_wp2
        go_ret
        rw [HR.out]
        exact ⟨rfl, hbel⟩
  · have HR := Lib.hid (P.mayLegs_len (a := la) (b := lb) (by rw [ha.len, hb.len]; exact hl))
    have t0 : ((m : Int) != (mb : Int)) = true := by rw [bne_iff_ne]; omega
    clear ha hb hc hs hx hy hl
    go_enter Tryz.func119, Tryz.ntmps119
    go_wp2
    go_ret
    rw [HR.out]
    exact ⟨rfl, Below.refl _ _⟩
end Go.Proofs.YtemjipongehjlaaGreat
