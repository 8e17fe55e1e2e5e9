/- What putTexts leaves: each list has its marks. -/
import Derived.Test.YtemjipongehjlaaGreatL15
namespace Go.Proofs.YtemjipongehjlaaGreat
set_option linter.unusedVariables false
open Go.RowKit Go.BigFrame
def GivesPutT (w : World) (B N : Nat) (lg : Value) (v : Nat → Value) (l : Nat → List ByteArray) (e : Ending) (w' : World) : Prop :=
  e = .returned (.tuple #[]) ∧ KeptS w' B N lg v (marksOfT l N) ∧ Frame w w' B [9]
set_option maxRecDepth 100000 in
set_option maxHeartbeats 4000000 in
theorem putTexts_any (gb B N : Nat) (ox ow lg lw : Value) (v : Nat → Value) (l : Nat → List ByteArray) (w : World)
    (hb : Blk w gb 51 (bookCells lg lw ox ow)) (hK : KeptS w B N lg v l) (hN : N ≤ 250) (hB : B ≤ w.heap.size) :
    Calls Tryz.prog 75 #[.pointer (some ⟨gb, 0, none⟩)] w (GivesPutT w B N lg v l) := by
  have HB := Lib.hid hb
  have HK := Lib.hid hK
  obtain ⟨Ag, cg, rfl, _⟩ := own_slice hK.outer
  clear hb hK
  go_enter Tryz.func75, Tryz.ntmps75
  go_wp2_with fail
  go_loopw [2] (fun x wr => ∃ k : Nat, k ≤ N ∧ x = .int .i64 k ∧ KeptS wr B N (.slice Ag N cg) v (marksOfT l k) ∧ Frame w wr B [9]) (fun x _ => N - (intOf x).toNat)
  case atStart => exact ⟨0, by omega, rfl, by rw [marksOfT_zero]; exact HK.out, Frame.refl _ _ _⟩
  case round =>
    obtain ⟨k, hk, rfl, hkr, hfr⟩ := hrel
    have KR := Lib.hid hkr
    have FR := Lib.hid hfr
    have Br := Lib.hid (HB.out.frame hfr (by decide))
    have zr := hfr.size
    have c00 : wr.cell? ⟨gb, 0, none⟩ = some (.slice Ag N cg) := (Br.out.cell 0).trans rfl
    clear hkr hfr
    by_cases hlt : k < N
    · have t1 : decide ((k : Int) < (N : Int)) = true := by simp; omega
      obtain ⟨wo, rfl⟩ : ∃ wo : World, wo = wr := ⟨_, rfl⟩
      obtain ⟨g1, cap1, e1, hg1, ce1⟩ := KR.out.at_ hlt
      cases e1
      have OK := Lib.hid (KR.out.own k hlt)
      rw [marksOfT_at] at OK
      obtain ⟨A1, c1, ev1, _⟩ := own_slice OK.out
      have EV := Lib.hid ev1
      have FW := Lib.hid (HK.out.few k hlt)
      have OV := Lib.hid (show OwnT wo B (.slice A1 (l k).length c1) (l k) from ev1 ▸ OK.out)
      rw [ev1] at ce1
      obtain ⟨ol, hol⟩ : ∃ ol, ol = l k := ⟨_, rfl⟩
      have HOL := Lib.hid hol
      rw [← hol] at OV OK ce1 FW EV
      have hfw := FW.out
      have MK := Lib.hid (markTextsT_any k 0 ol.length wo (by omega) (by omega) (by omega))
      clear ev1 hol
      go_wp2_with fail
      refine MK.out.mono ?_
      rintro x w2 ⟨vm, rfl, hom, hbm⟩
      obtain ⟨A2, c2, rfl, _⟩ := own_slice hom
      rw [P.marksS_len] at hom
      have S2 := Lib.hid (show Stays wo w2 from hbm)
      have M2 := Lib.hid hom
      have V2 := Lib.hid (OwnT.stays OV.out hbm)
      have K2 := Lib.hid (Kept.stays KR.out hbm)
      have B2 := Lib.hid (Br.out.stays hbm)
      have z2 := hbm.size
      have hg12 : g1 < w2.heap.size := Nat.lt_of_lt_of_le hg1 z2
      have ce2 : w2.cell? ⟨g1, k, none⟩ = some (.slice A1 ol.length c1) := (hbm.cell (p := ⟨g1, k, none⟩) hg1).trans ce1
      clear hom hbm ce1 c00
      rw [P.marksS_len]
      have ML := Lib.hid (P.marksS_len k 0 ol.length)
      go_wp2_with fail
      go_loopw [4] (fun x wq => ∃ j : Nat, j ≤ ol.length ∧ x = .int .i64 j ∧ OwnT wq B (.slice A1 ol.length c1) (mixed (P.marksS k 0 ol.length) ol j) ∧ w2.grownBy wq (Value.slice A1 ol.length c1).ownBlock) (fun x _ => ol.length - (intOf x).toNat)
      case atStart => exact ⟨0, by omega, rfl, by rw [mixed_zero]; exact V2.out, (Stays.refl _).grown _⟩
      case round =>
        obtain ⟨j, hj, rfl, hmx, hgr⟩ := hrel
        have MX := Lib.hid hmx
        have GR := Lib.hid hgr
        clear hmx hgr
        by_cases hjl : j < ol.length
        · have t2 : decide ((j : Int) < (ol.length : Int)) = true := by simp; omega
          obtain ⟨g, capg, e3, hgB, hgl⟩ := World.ownsRow.form V2.out (by omega)
          cases e3
          obtain ⟨g3, capm, e4, hg3, hgm⟩ := World.ownsRow.form M2.out (by rw [ML.out]; omega)
          rw [ML.out] at e4
          cases e4
          have hgo : g < wo.heap.size := (World.ownsRow.lt OV.out g rfl).2
          have GR' : w2.grownBy wr (some g) := GR.out
          have Br2 := Lib.hid (B2.out.grown GR' (fun e => own_ne V2.out B2.out (by decide) e.symm))
          obtain ⟨cs1, b1⟩ := own_type K2.out.outer (g := g1) rfl
          have b1r := b1.grown GR' (fun e => own_ne V2.out b1 (by decide) e.symm)
          have ce3 : wr.cell? ⟨g1, k, none⟩ = some (.slice (some ⟨g, 0, none⟩) ol.length c1) := by rw [b1r.cell, ← b1.cell]; exact ce2
          have hg13 : g1 < wr.heap.size := b1r.lt
          have M3 := Lib.hid (show OwnT wr wo.heap.size (.slice (some ⟨g3, 0, none⟩) ol.length c2) (P.marksS k 0 ol.length) from own_grown (b := g) M2.out GR' (by simp [Value.ownBlock]; omega))
          obtain ⟨ml, hml⟩ : ∃ ml, (P.marksS k 0 ol.length)[j]? = some ml := ⟨_, P.marksS_get hjl⟩
          have HMJ := Lib.hid hml
          clear hml
          have LI := Lib.hid (show wr.cell? ⟨g3, j, none⟩ = some (.string ml) from by
            have h := M3.out.cells (g := g3) rfl j (.string ml) (by rw [strCells_map, List.getElem?_map, HMJ.out]; rfl)
            rwa [Addr.add_lit, Nat.zero_add] at h)
          have zr3 := M3.out
          have hg3l : g3 < wr.heap.size := (World.ownsRow.lt M3.out g3 rfl).2
          have cr20 : wr.cell? ⟨gb, 0, none⟩ = some (.slice (some ⟨g1, 0, none⟩) N cg) := (Br2.out.cell 0).trans rfl
          have hgbl := Br2.out.lt
          clear b1 b1r zr3 GR'
          go_wp2_with fail
          refine wp_region_free 13 [] Stays (fun _ => none) (by kernel_rfl) (by kernel_rfl) Stays.refl (by simp) (Stays.draw _) Stays.trans (fun j φ v x y hB => by cases hB) ?_
          apply wpFree_pure rfl rfl
          · intro vs wx hk K hK
            go_simp
            exact hK _ (Stays.refl _)
          intro KK hKK
          go_simp
          refine hKK _ ?_
          clear hKK KK
          apply wpFree_pure rfl rfl
          · intro vs wx hk K hK
            go_simp
            exact hK _ (Stays.refl _)
          intro KK hKK
          go_simp
          refine hKK _ ?_
          clear hKK KK
          apply wpFree_pure rfl rfl
          · intro vs wx hk K hK
            go_simp
            exact hK _ (Stays.refl _)
          intro KK hKK
          go_simp
          refine hKK _ ?_
          clear hKK KK
          apply wpFree_pure rfl rfl
          · intro vs wx hk K hK
            have c1 := (hk.1.cell (p := ⟨gb, 0, none⟩) hgbl).trans cr20
            go_simp
            exact hK _ (Stays.refl _)
          intro KK hKK
          go_simp
          refine hKK _ ?_
          clear hKK KK
          apply wpFree_pure rfl rfl
          · intro vs wx hk K hK
            go_simp
            exact hK _ (Stays.refl _)
          intro KK hKK
          go_simp
          refine hKK _ ?_
          clear hKK KK
          apply wpFree_pure rfl rfl
          · intro vs wx hk K hK
            go_simp
            exact hK _ (Stays.refl _)
          intro KK hKK
          go_simp
          refine hKK _ ?_
          clear hKK KK
          apply wpFree_pure rfl rfl
          · intro vs wx hk K hK
            have c1 := (hk.1.cell (p := ⟨g1, k, none⟩) hg13).trans ce3
            go_simp
            exact hK _ (Stays.refl _)
          intro KK hKK
          go_simp
          refine hKK _ ?_
          clear hKK KK
          apply wpFree_pure rfl rfl
          · intro vs wx hk K hK
            go_simp
            exact hK _ (Stays.refl _)
          intro KK hKK
          go_simp
          refine hKK _ ?_
          clear hKK KK
          apply wpFree_pure rfl rfl
          · intro vs wx hk K hK
            go_simp
            exact hK _ (Stays.refl _)
          intro KK hKK
          go_simp
          refine hKK _ ?_
          clear hKK KK
          apply wpFree_pure rfl rfl
          · intro vs wx hk K hK
            go_simp
            exact hK _ (Stays.refl _)
          intro KK hKK
          go_simp
          refine hKK _ ?_
          clear hKK KK
          apply wpFree_pure rfl rfl
          · intro vs wx hk K hK
            go_simp
            exact hK _ (Stays.refl _)
          intro KK hKK
          go_simp
          refine hKK _ ?_
          clear hKK KK
          apply wpFree_pure rfl rfl
          · intro vs wx hk K hK
            have c1 := (hk.1.cell (p := ⟨g3, j, none⟩) hg3l).trans LI.out
            go_simp
            exact hK _ (Stays.refl _)
          intro KK hKK
          go_simp
          refine hKK _ ?_
          clear hKK KK
          apply wpFree_pure rfl rfl
          · intro vs wx hk K hK
            go_simp
            exact hK _ (Stays.refl _)
          intro KK hKK
          go_simp
          refine hKK _ ?_
          clear hKK KK
          refine wpFree_nil ?_
          intro vs w4 hs4 _
          have G4 := Lib.hid (GR.out.trans (hs4.grown _))
          have MX4 := Lib.hid (show OwnT w4 B (.slice (some ⟨g, 0, none⟩) ol.length c1) (mixed (P.marksS k 0 ol.length) ol j) from OwnT.stays MX.out hs4)
          have LM := Lib.hid (mixed_len (a := P.marksS k 0 ol.length) (b := ol) ML.out hj)
          obtain ⟨xo, hxo⟩ : ∃ xo, (mixed (P.marksS k 0 ol.length) ol j)[j]? = some xo := ⟨_, List.getElem?_eq_getElem (by rw [LM.out]; exact hjl)⟩
          have cj : w4.cell? ⟨g, j, none⟩ = some (.string xo) := by
            have h := MX4.out.cells (g := g) rfl j (.string xo) (by rw [strCells_map, List.getElem?_map, hxo]; rfl)
            rwa [Addr.add_lit, Nat.zero_add] at h
          have fj : w4.frozen? ⟨g, j, none⟩ = false := World.ownsRow.frozenAt (show w4.ownsRow B 9 1 (.slice (some ⟨g, 0, none⟩) ol.length c1) _ _ from by have h := MX4.out; unfold OwnT at h; rw [LM.out] at h; exact h) j
          clear hxo
          have SM := Lib.hid (mixed_set (a := P.marksS k 0 ol.length) (b := ol) ML.out hjl HMJ.out)
          clear hs4 ce3 cr20
          intro KK hKK
          simp only [List.drop_succ_cons, List.drop_zero]
          have hp := OwnT.put (k := j) (s := ml) MX4.out LM.out
          rw [SM.out] at hp
          have G5 := Lib.hid (G4.out.trans (grown_set w4 g j (.string ml)))
          have P5 := Lib.hid hp
          clear hp
          go_wp2
          go_roundw
          case rel => exact ⟨j + 1, by omega, by go_num, P5.out, G5.out⟩
          case measure => simp [intOf]; omega
        · have t2 : decide ((j : Int) < (ol.length : Int)) = false := by simp; omega
          have hje : j = ol.length := by omega
          have PM := Lib.hid (show OwnT wr B (.slice A1 ol.length c1) (P.marksS k 0 ol.length) from by
            have := MX.out
            rw [hje, mixed_all ML.out] at this
            exact this)
          have FN := Lib.hid (FR.out.trans ((Frame.of_stays S2.out _ _).trans (Frame.of_own GR.out (own_less V2.out (Nat.le_refl _)) (by simp))))
          have KN : KeptS wr B N (.slice (some ⟨g1, 0, none⟩) N cg) v (marksOfT l (k + 1)) := by
            rw [marksOfT_next]
            refine K2.out.turn hlt (by decide) (by rw [EV.out]; exact GR.out) ?_ (by rw [P.marksS_len, ← HOL.out]; exact FW.out)
            rw [EV.out, ← HOL.out]
            exact PM.out
          have KN := Lib.hid KN
          clear hje
          go_wp2
          go_roundw
          case rel => exact ⟨k + 1, by omega, by go_num, KN.out, FN.out⟩
          case measure => simp [intOf]; omega
    · have t1 : decide ((k : Int) < (N : Int)) = false := by simp; omega
      have hkn : k = N := by omega
      have KN := Lib.hid (show KeptS wr B N (.slice Ag N cg) v (marksOfT l N) from hkn ▸ KR.out)
      clear hkn
      go_wp2
      go_end0
      exact ⟨rfl, KN.out, FR.out⟩
end Go.Proofs.YtemjipongehjlaaGreat
/- What growLegs returns: each list grown by its marks; what the lists were stands. -/
namespace Go.Proofs.YtemjipongehjlaaGreat
set_option linter.unusedVariables false
open Go.RowKit Go.BigFrame
/-- A value that reads as a list of legs, out of a block of legs. -/
def ReadsL (w : World) (x : Value) (ls : List P.Leg) : Prop :=
  ∃ A c, x = .slice A ls.length c ∧ LegsAt w w.heap.size A ls.length ls ∧ ∀ g, x.ownBlock = some g → ∃ cs, Blk w g 69 cs
theorem ReadsL.of_own {w : World} {B n : Nat} {x : Value} {ls : List P.Leg} (h : w.ownsRow B 69 6 x n (ls.flatMap P.Leg.cells)) (hn : ls.length = n) : ReadsL w x ls := by
  subst hn
  obtain ⟨A, c, rfl, _⟩ := own_slice h
  exact ⟨A, c, rfl, OwnL.legs h, fun g hg => own_type h hg⟩
theorem ReadsL.ch {w w' : World} {S : List (Option Nat)} {x : Value} {ls : List P.Leg} (h : ReadsL w x ls) (hc : Ch S w w') (hn : ∀ g, x.ownBlock = some g → some g ∉ S) : ReadsL w' x ls := by
  obtain ⟨A, c, rfl, hl, hb⟩ := h
  refine ⟨A, c, rfl, ⟨hl.1, fun hp => ?_⟩, fun g hg => ?_⟩
  · obtain ⟨ad, e, hab, hcell⟩ := hl.2 hp
    subst e
    have hk := hc.keep ad.block hab (hn ad.block rfl)
    refine ⟨ad, rfl, Nat.lt_of_lt_of_le hab hc.size, fun j u hu => ?_⟩
    rw [← hcell j u hu]
    exact World.cell?_of_block (w := w) (a := ad.add j) (by rw [block_of_add]; exact hk)
  · obtain ⟨cs, hk⟩ := hb g hg
    exact ⟨cs, hk.ch hc (hn g hg)⟩
theorem Frame.ch {w w1 w2 : World} {B : Nat} {T : List TypeId} {S : List (Option Nat)} (h : Frame w w1 B T) (hc : Ch S w1 w2) (hs : ∀ b, some b ∈ S → w.heap.size ≤ b ∨ (B ≤ b ∧ ∃ cs t, t ∈ T ∧ Blk w b t cs)) : Frame w w2 B T := by
  refine ⟨hc.os.trans h.os, hc.tape.trans h.tape, hc.output.trans h.output, Nat.le_trans h.size hc.size, fun k hk hor => ?_⟩
  rw [hc.keep k (Nat.lt_of_lt_of_le hk h.size) (fun hm => ?_), h.keep k hk hor]
  rcases hs k hm with h1 | ⟨h1, cs, t, ht, hb⟩
  · omega
  · rcases hor with h2 | h2
    · omega
    · exact h2 _ _ _ hb ht
theorem GrowI.reads {W0 w : World} {B n0 n : Nat} {v0 v : Value} {xs : List Value} {ls : List P.Leg} (h : GrowI W0 B 69 6 v0 n0 w v n xs) (h0 : W0.ownsRow B 69 6 v0 n0 (ls.flatMap P.Leg.cells)) (hl : ls.length = n0) : ReadsL w v0 ls := by
  subst hl
  obtain ⟨A, c, rfl, _⟩ := own_slice h0
  refine ⟨A, c, rfl, ⟨h0.1, fun hp => ?_⟩, h.ty⟩
  obtain ⟨g, cap, e, hgB, hgl⟩ := World.ownsRow.form h0 hp
  cases e
  refine ⟨_, rfl, Nat.lt_of_lt_of_le hgl h.gr.size, fun j u hu => ?_⟩
  have hj : j < ls.length * 6 := by
    rw [← h0.1]
    exact (List.getElem?_eq_some_iff.1 hu).1
  have h1 := h0.cells (g := g) rfl j u hu
  rw [Addr.add_lit, Nat.zero_add] at h1 ⊢
  rw [h.old g j rfl hj]
  exact h1
def GivesGrowL (w : World) (B N : Nat) (v : Nat → Value) (n : Nat → Nat) (e : Ending) (w' : World) : Prop :=
  ∃ V q, e = .returned V ∧ w'.ownsRow w.heap.size 26 1 V N ((List.range N).map q) ∧ (∀ i, i < N → ReadsL w' (q i) (P.marksL i 0 (n i + 72))) ∧ (∀ i, i < N → ReadsL w' (v i) (P.marksL i 0 (n i))) ∧ Frame w w' B [69]
end Go.Proofs.YtemjipongehjlaaGreat
/- What growTexts returns: each list grown by its marks; what the lists were stands. -/
namespace Go.Proofs.YtemjipongehjlaaGreat
set_option linter.unusedVariables false
open Go.RowKit Go.BigFrame
/-- A value that reads as a list of legs, out of a block of legs. -/
def ReadsT (w : World) (x : Value) (ls : List ByteArray) : Prop :=
  ∃ A c, x = .slice A ls.length c ∧ TextsAt w w.heap.size A ls.length ls ∧ ∀ g, x.ownBlock = some g → ∃ cs, Blk w g 9 cs
theorem ReadsT.of_own {w : World} {B n : Nat} {x : Value} {ls : List ByteArray} (h : w.ownsRow B 9 1 x n (ls.flatMap strCells)) (hn : ls.length = n) : ReadsT w x ls := by
  subst hn
  obtain ⟨A, c, rfl, _⟩ := own_slice h
  exact ⟨A, c, rfl, OwnT.legs h, fun g hg => own_type h hg⟩
theorem ReadsT.ch {w w' : World} {S : List (Option Nat)} {x : Value} {ls : List ByteArray} (h : ReadsT w x ls) (hc : Ch S w w') (hn : ∀ g, x.ownBlock = some g → some g ∉ S) : ReadsT w' x ls := by
  obtain ⟨A, c, rfl, hl, hb⟩ := h
  refine ⟨A, c, rfl, ⟨hl.1, fun hp => ?_⟩, fun g hg => ?_⟩
  · obtain ⟨ad, e, hab, hcell⟩ := hl.2 hp
    subst e
    have hk := hc.keep ad.block hab (hn ad.block rfl)
    refine ⟨ad, rfl, Nat.lt_of_lt_of_le hab hc.size, fun j u hu => ?_⟩
    rw [← hcell j u hu]
    exact World.cell?_of_block (w := w) (a := ad.add j) (by rw [block_of_add]; exact hk)
  · obtain ⟨cs, hk⟩ := hb g hg
    exact ⟨cs, hk.ch hc (hn g hg)⟩
theorem GrowI.readsT {W0 w : World} {B n0 n : Nat} {v0 v : Value} {xs : List Value} {ls : List ByteArray} (h : GrowI W0 B 9 1 v0 n0 w v n xs) (h0 : W0.ownsRow B 9 1 v0 n0 (ls.flatMap strCells)) (hl : ls.length = n0) : ReadsT w v0 ls := by
  subst hl
  obtain ⟨A, c, rfl, _⟩ := own_slice h0
  refine ⟨A, c, rfl, ⟨h0.1, fun hp => ?_⟩, h.ty⟩
  obtain ⟨g, cap, e, hgB, hgl⟩ := World.ownsRow.form h0 hp
  cases e
  refine ⟨_, rfl, Nat.lt_of_lt_of_le hgl h.gr.size, fun j u hu => ?_⟩
  have hj : j < ls.length * 1 := by
    rw [← h0.1]
    exact (List.getElem?_eq_some_iff.1 hu).1
  have h1 := h0.cells (g := g) rfl j u hu
  rw [Addr.add_lit, Nat.zero_add] at h1 ⊢
  rw [h.old g j rfl hj]
  exact h1
def GivesGrowT (w : World) (B N : Nat) (v : Nat → Value) (n : Nat → Nat) (e : Ending) (w' : World) : Prop :=
  ∃ V q, e = .returned V ∧ w'.ownsRow w.heap.size 29 1 V N ((List.range N).map q) ∧ (∀ i, i < N → ReadsT w' (q i) (P.marksS i 0 (n i + 72))) ∧ (∀ i, i < N → ReadsT w' (v i) (P.marksS i 0 (n i))) ∧ Frame w w' B [9]
end Go.Proofs.YtemjipongehjlaaGreat
/- What growLegs returns. -/
namespace Go.Proofs.YtemjipongehjlaaGreat
set_option linter.unusedVariables false
open Go.RowKit Go.BigFrame
theorem leg_flat_one (l : List P.Leg) : ∀ u ∈ l.flatMap P.Leg.cells, u.oneCell' = true := flat_one l
/-- What the rounds of growLegs keep. -/
structure GrowsL (w : World) (B N k : Nat) (v : Nat → Value) (n : Nat → Nat) (q : Nat → Value) (o : Value) (wr : World) : Prop where
  out : wr.ownsRow w.heap.size 26 1 o k ((List.range k).map q)
  done : ∀ i, i < k → ReadsL wr (q i) (P.marksL i 0 (n i + 72)) ∧ ∀ g, (q i).ownBlock = some g → (v i).ownBlock = some g ∨ w.heap.size ≤ g
  was : ∀ i, i < k → ReadsL wr (v i) (P.marksL i 0 (n i))
  left : ∀ i, k ≤ i → i < N → wr.ownsRow B 69 6 (v i) (n i) ((P.marksL i 0 (n i)).flatMap P.Leg.cells)
  fr : Frame w wr B [69]
section
variable {w wr w' : World} {B N k : Nat} {v q : Nat → Value} {n : Nat → Nat} {o o' x : Value}
/-- One more round. -/
theorem GrowsL.next (h : GrowsL w B N k v n q o wr) (hk : k < N) (h0 : ∀ i, i < N → w.ownsRow B 69 6 (v i) (n i) ((P.marksL i 0 (n i)).flatMap P.Leg.cells)) (hap : ∀ i j g, i < N → j < N → i ≠ j → (v i).ownBlock = some g → (v j).ownBlock ≠ some g)
    (hc : Ch [(v k).ownBlock, o.ownBlock] wr w') (ho : w'.ownsRow w.heap.size 26 1 o' (k + 1) ((List.range k).map q ++ [x])) (hx : ReadsL w' x (P.marksL k 0 (n k + 72))) (hxa : ∀ g, x.ownBlock = some g → (v k).ownBlock = some g ∨ w.heap.size ≤ g) (hv : ReadsL w' (v k) (P.marksL k 0 (n k))) :
    GrowsL w B N (k + 1) v n (addAt q k x) o' w' := by
  have hout : ∀ {y : Value} {ls : List P.Leg} {g : Nat}, ReadsL wr y ls → y.ownBlock = some g → o.ownBlock ≠ some g := fun hy hg e => by
    obtain ⟨_, _, _, _, hb⟩ := hy
    obtain ⟨cs, hb⟩ := hb _ hg
    exact own_ne h.out hb (by decide) e
  have hlt : ∀ i g, i < N → (v i).ownBlock = some g → g < w.heap.size := fun i g hi hg => (World.ownsRow.lt (h0 i hi) g hg).2
  refine ⟨by rw [addAt_map]; exact ho, fun i hi => ?_, fun i hi => ?_, fun i hi hiN => ?_, h.fr.ch hc (fun b hb => ?_)⟩
  · by_cases hik : i = k
    · subst hik; rw [addAt_at]; exact ⟨hx, hxa⟩
    · rw [addAt_lt (by omega)]
      obtain ⟨h1, h2⟩ := h.done i (by omega)
      refine ⟨h1.ch hc (fun g hg hm => ?_), h2⟩
      simp only [List.mem_cons, List.not_mem_nil, or_false] at hm
      rcases hm with hm | hm
      · rcases h2 g hg with h3 | h3
        · exact hap i k g (by omega) hk hik h3 hm.symm
        · have := hlt k g hk hm.symm; omega
      · exact hout h1 hg hm.symm
  · by_cases hik : i = k
    · subst hik; exact hv
    · have h1 := h.was i (by omega)
      refine h1.ch hc (fun g hg hm => ?_)
      simp only [List.mem_cons, List.not_mem_nil, or_false] at hm
      rcases hm with hm | hm
      · exact hap i k g (by omega) hk hik hg hm.symm
      · exact hout h1 hg hm.symm
  · have h1 := h.left i (by omega) hiN
    refine own_ch h1 hc (fun g hg hm => ?_)
    simp only [List.mem_cons, List.not_mem_nil, or_false] at hm
    rcases hm with hm | hm
    · exact hap i k g hiN hk (by omega) hg hm.symm
    · obtain ⟨cs, hb⟩ := own_type h1 hg
      exact own_ne h.out hb (by decide) hm.symm
  · simp only [List.mem_cons, List.not_mem_nil, or_false] at hb
    rcases hb with hb | hb
    · obtain ⟨cs, hk'⟩ := own_type (h0 k hk) hb.symm
      exact .inr ⟨(World.ownsRow.lt (h0 k hk) b hb.symm).1, cs, _, List.mem_singleton.2 rfl, hk'⟩
    · exact .inl (World.ownsRow.lt h.out b hb.symm).1
end
set_option maxRecDepth 100000 in
set_option maxHeartbeats 4000000 in
theorem growLegs_any (gb B N : Nat) (tx tw lg lw : Value) (v : Nat → Value) (n : Nat → Nat) (w : World)
    (hb : Blk w gb 51 (bookCells tx tw lg lw)) (hK : KeptL w B N lg v (fun i => P.marksL i 0 (n i))) (hN : N ≤ 250) (hB : B ≤ w.heap.size) (hn : ∀ i, i < N → n i ≤ 1000) :
    Calls Tryz.prog 94 #[.pointer (some ⟨gb, 0, none⟩)] w (GivesGrowL w B N v n) := by
  obtain ⟨iL, hiL, hzL, hsL, hbL⟩ := info_parts infoLeg
  obtain ⟨i0, hi0, hz0, hs0, hb0⟩ := info_parts infoLs
  have HB := Lib.hid hb
  have HK := Lib.hid hK
  have HN := Lib.hid hn
  have H0 := Lib.hid (show ∀ i, i < N → w.ownsRow B 69 6 (v i) (n i) ((P.marksL i 0 (n i)).flatMap P.Leg.cells) from fun i hi => by have := hK.own i hi; rwa [P.marksL_len] at this)
  obtain ⟨Ag, cg, rfl, _⟩ := own_slice hK.outer
  clear hb hK hn
  go_enter Tryz.func94, Tryz.ntmps94
  go_wp2_with fail
  go_loopw [3, 4] (fun o x wr => ∃ (k : Nat) (q : Nat → Value), k ≤ N ∧ x = .int .i64 k ∧ GrowsL w B N k v n q o wr) (fun _ x _ => N - (intOf x).toNat)
  case atStart => exact ⟨0, v, by omega, rfl, World.ownsRow_nil _ _ _ _, fun i hi => by omega, fun i hi => by omega, fun i _ hi => H0.out i hi, Frame.refl _ _ _⟩
  case round =>
    obtain ⟨k, q, hk, rfl, hgs⟩ := hrel
    have GS := Lib.hid hgs
    have Br := Lib.hid (HB.out.frame hgs.fr (by decide))
    have zr := hgs.fr.size
    have c20 : wr.cell? ⟨gb, 20, none⟩ = some (.slice Ag N cg) := (Br.out.cell 20).trans rfl
    have Or := Lib.hid (own_frame HK.out.outer hgs.fr (by decide))
    obtain ⟨Ao, co, rfl, _⟩ := own_slice hgs.out
    clear hgs
    by_cases hlt : k < N
    · have t1 : decide ((k : Int) < (N : Int)) = true := by simp; omega
      obtain ⟨wo, rfl⟩ : ∃ wo : World, wo = wr := ⟨_, rfl⟩
      obtain ⟨g1, cap1, e1, hgB1, hg1⟩ := World.ownsRow.form Or.out (by omega)
      cases e1
      have OK := Lib.hid (GS.out.left k (Nat.le_refl _) hlt)
      obtain ⟨A1, c1, ev1, _⟩ := own_slice OK.out
      have EV := Lib.hid ev1
      have NK := HN.out k hlt
      have ce1 : wo.cell? ⟨g1, k, none⟩ = some (.slice A1 (n k) c1) := by
        have := Or.out.cells (g := g1) rfl k (v k) (by simp [hlt])
        rw [Addr.add_lit, Nat.zero_add] at this
        rw [this, ev1]
      have G0 := Lib.hid (GrowI.start OK.out)
      clear ev1
      go_wp2_with fail
      go_loopw [5, 6] (fun y x wq => ∃ j : Nat, j ≤ 12 ∧ x = .int .i64 j ∧ GrowI wo B 69 6 (v k) (n k) wq y (n k + j) ((P.marksL k 0 (n k + j)).flatMap P.Leg.cells)) (fun _ x _ => 12 - (intOf x).toNat)
      case atStart => exact ⟨0, by omega, rfl, EV.out ▸ G0.out⟩
      case round =>
        obtain ⟨j, hj, rfl, hgi⟩ := hrel
        have GI := Lib.hid hgi
        obtain ⟨A5, c5, e5, _⟩ := own_slice hgi.own
        subst e5
        have zq := hgi.gr.size
        clear hgi
        by_cases hjl : j < 12
        · have t2 : decide ((j : Int) < 12) = true := by simp; omega
          have MK := markLegs_any k (n k + j) 1 wr (by omega) (by omega) (by omega)
          rw [Int.natCast_add] at MK
          have MK := Lib.hid MK
          have MA := Lib.hid (show P.marksL k 0 (n k + j) ++ P.marksL k (n k + j) 1 = P.marksL k 0 (n k + (j + 1)) from by
            have := P.marksL_add k 0 (n k + j) 1
            rw [Nat.zero_add] at this
            exact this)
          have ML := Lib.hid (P.marksL_len k (n k + j) 1)
          go_wp2_with fail
          refine MK.out.mono ?_
          rintro x w2 ⟨vm, rfl, hom, hbm⟩
          obtain ⟨g2, cap2, e2, hg2B, hg2l⟩ := World.ownsRow.form hom (by rw [ML.out]; omega)
          subst e2
          rw [ML.out]
          have OM := Lib.hid (show w2.ownsRow wr.heap.size 69 6 (.slice (some ⟨g2, 0, none⟩) 1 cap2) 1 ((P.marksL k (n k + j) 1).flatMap P.Leg.cells) from by have h := hom; unfold OwnL at h; rw [ML.out] at h; exact h)
          have G2 := Lib.hid (GI.out.stays hbm)
          have z2 := hbm.size
          clear hom hbm
          go_wp2_with (at_builtin; refine wpList_append_growI rfl (.tmp 27) (.tmp 31) 26 rfl iL _ 72 Tryz.underlying26 hiL hzL hsL hbL rfl (by omega) G2.out rfl (by omega) ⟨g2, 0, none⟩ 1 cap2 ((P.marksL k (n k + j) 1).flatMap P.Leg.cells) rfl OM.out.1 (OM.out.cells (g := g2) rfl) (flat_one _) (by unfold maxLen; omega) (by omega) ?_; intro v' w4 hgi4 hgr4; rw [← List.flatMap_append, MA.out] at hgi4; have G4 := Lib.hid hgi4; clear hgi4 hgr4)
          go_roundw
          case rel => exact ⟨j + 1, by omega, by go_num, G4.out⟩
          case measure => simp [intOf]; omega
        · have t2 : decide ((j : Int) < 12) = false := by simp; omega
          obtain rfl : j = 12 := by omega
          have MK := markLegs_any k (n k + 12) 60 wr (by omega) (by omega) (by omega)
          rw [Int.natCast_add] at MK
          have MK := Lib.hid MK
          have MA := Lib.hid (show P.marksL k 0 (n k + 12) ++ P.marksL k (n k + 12) 60 = P.marksL k 0 (n k + 72) from by
            have := P.marksL_add k 0 (n k + 12) 60
            rw [Nat.zero_add] at this
            exact this)
          have ML := Lib.hid (P.marksL_len k (n k + 12) 60)
          go_wp2_with fail
          refine MK.out.mono ?_
          rintro x w2 ⟨vm, rfl, hom, hbm⟩
          obtain ⟨g2, cap2, e2, hg2B, hg2l⟩ := World.ownsRow.form hom (by rw [ML.out]; omega)
          subst e2
          rw [ML.out]
          have OM := Lib.hid (show w2.ownsRow wr.heap.size 69 6 (.slice (some ⟨g2, 0, none⟩) 60 cap2) 60 ((P.marksL k (n k + 12) 60).flatMap P.Leg.cells) from by have h := hom; unfold OwnL at h; rw [ML.out] at h; exact h)
          have G2 := Lib.hid (GI.out.stays hbm)
          have z2 := hbm.size
          clear hom hbm
          go_wp2_with (first
            | (at_builtin; refine wpList_append_growI rfl (.tmp 34) (.tmp 38) 26 rfl iL _ 72 Tryz.underlying26 hiL hzL hsL hbL rfl (by omega) G2.out rfl (by omega) ⟨g2, 0, none⟩ 60 cap2 ((P.marksL k (n k + 12) 60).flatMap P.Leg.cells) rfl OM.out.1 (OM.out.cells (g := g2) rfl) (flat_one _) (by unfold maxLen; omega) (by omega) ?_; intro v' w4 hgi4 hgr4; rw [← List.flatMap_append, MA.out] at hgi4; obtain ⟨A6, c6, e6, _⟩ := own_slice hgi4.own; subst e6; have G4 := Lib.hid hgi4; have z4 := hgi4.gr.size; have O4 := Lib.hid (own_ch GS.out.out (Ch.of_grown hgi4.gr (List.mem_singleton.2 rfl)) (fun g hg hm => by
                have e := List.mem_singleton.1 hm
                obtain ⟨cs, hb⟩ := own_type OK.out e.symm
                exact own_ne GS.out.out hb (by decide) hg)); clear hgi4 hgr4)
            | (at_builtin; refine wpList_append_own (w4.alloc (.cells #[.slice A6 (n k + 12 + 60) c6] 26)) rfl (.tmp 33) (.tmp 40) 43 rfl w.heap.size 26 i0 (.slice none 0 0) 1 24 Tryz.underlying43 hi0 hz0 hs0 hb0 rfl (by omega) (.slice Ao k co) k ((List.range k).map q) rfl (own_stays O4.out (Stays.alloc _ _)) ⟨w4.heap.size, 0, none⟩ 1 1 [.slice A6 (n k + 12 + 60) c6] rfl rfl (cell_one_new _ _ _) (by simp [Value.oneCell']) (by unfold maxLen; omega) (by omega) (by simp; omega) ?_; intro o' w5 hown5 hgr5 _; have O5 := Lib.hid hown5; have R5 := Lib.hid ((Stays.alloc w4 (.cells #[.slice A6 (n k + 12 + 60) c6] 26)).grown (Value.ownBlock (.slice Ao k co)) |>.trans hgr5); clear hown5 hgr5))
          have CH := Lib.hid (show Ch [(v k).ownBlock, Value.ownBlock (.slice Ao k co)] wo w5 from (Ch.of_grown G4.out.gr (by simp)).trans (Ch.of_grown R5.out (by simp)))
          have CO := Lib.hid (show Ch [Value.ownBlock (.slice Ao k co)] w4 w5 from Ch.of_grown R5.out (by simp))
          have RX := Lib.hid (ReadsL.ch (ReadsL.of_own (ls := P.marksL k 0 (n k + 72)) G4.out.own (P.marksL_len _ _ _)) CO.out (fun g hg hm => by
            have e := List.mem_singleton.1 hm
            obtain ⟨cs, hb⟩ := own_type G4.out.own hg
            exact own_ne O4.out hb (by decide) e.symm))
          have RV := Lib.hid (ReadsL.ch (G4.out.reads OK.out (P.marksL_len _ _ _)) CO.out (fun g hg hm => by
            have e := List.mem_singleton.1 hm
            obtain ⟨cs, hb⟩ := G4.out.ty g hg
            exact own_ne O4.out hb (by decide) e.symm))
          have NX := Lib.hid (GS.out.next hlt H0.out HK.out.apart CH.out O5.out RX.out (fun g hg => by
            rcases G4.out.at_ with h1 | ⟨g', h1, h2⟩
            · exact .inl (h1 ▸ hg)
            · rw [h1] at hg
              cases hg
              exact .inr (by omega)) RV.out)
          go_wp2
          go_roundw
          case rel => exact ⟨k + 1, _, by omega, by go_num, NX.out⟩
          case measure => simp [intOf]; omega
    · have t1 : decide ((k : Int) < (N : Int)) = false := by simp; omega
      have hkn : k = N := by omega
      subst hkn
      go_wp2
      go_ret
      exact ⟨_, q, rfl, GS.out.out, fun i hi => (GS.out.done i hi).1, GS.out.was, GS.out.fr⟩
end Go.Proofs.YtemjipongehjlaaGreat
/- What growTexts returns. -/
namespace Go.Proofs.YtemjipongehjlaaGreat
set_option linter.unusedVariables false
open Go.RowKit Go.BigFrame
/-- What the rounds of growTexts keep. -/
structure GrowsT (w : World) (B N k : Nat) (v : Nat → Value) (n : Nat → Nat) (q : Nat → Value) (o : Value) (wr : World) : Prop where
  out : wr.ownsRow w.heap.size 29 1 o k ((List.range k).map q)
  done : ∀ i, i < k → ReadsT wr (q i) (P.marksS i 0 (n i + 72)) ∧ ∀ g, (q i).ownBlock = some g → (v i).ownBlock = some g ∨ w.heap.size ≤ g
  was : ∀ i, i < k → ReadsT wr (v i) (P.marksS i 0 (n i))
  left : ∀ i, k ≤ i → i < N → wr.ownsRow B 9 1 (v i) (n i) ((P.marksS i 0 (n i)).flatMap strCells)
  fr : Frame w wr B [9]
section
variable {w wr w' : World} {B N k : Nat} {v q : Nat → Value} {n : Nat → Nat} {o o' x : Value}
/-- One more round. -/
theorem GrowsT.next (h : GrowsT w B N k v n q o wr) (hk : k < N) (h0 : ∀ i, i < N → w.ownsRow B 9 1 (v i) (n i) ((P.marksS i 0 (n i)).flatMap strCells)) (hap : ∀ i j g, i < N → j < N → i ≠ j → (v i).ownBlock = some g → (v j).ownBlock ≠ some g)
    (hc : Ch [(v k).ownBlock, o.ownBlock] wr w') (ho : w'.ownsRow w.heap.size 29 1 o' (k + 1) ((List.range k).map q ++ [x])) (hx : ReadsT w' x (P.marksS k 0 (n k + 72))) (hxa : ∀ g, x.ownBlock = some g → (v k).ownBlock = some g ∨ w.heap.size ≤ g) (hv : ReadsT w' (v k) (P.marksS k 0 (n k))) :
    GrowsT w B N (k + 1) v n (addAt q k x) o' w' := by
  have hout : ∀ {y : Value} {ls : List ByteArray} {g : Nat}, ReadsT wr y ls → y.ownBlock = some g → o.ownBlock ≠ some g := fun hy hg e => by
    obtain ⟨_, _, _, _, hb⟩ := hy
    obtain ⟨cs, hb⟩ := hb _ hg
    exact own_ne h.out hb (by decide) e
  have hlt : ∀ i g, i < N → (v i).ownBlock = some g → g < w.heap.size := fun i g hi hg => (World.ownsRow.lt (h0 i hi) g hg).2
  refine ⟨by rw [addAt_map]; exact ho, fun i hi => ?_, fun i hi => ?_, fun i hi hiN => ?_, h.fr.ch hc (fun b hb => ?_)⟩
  · by_cases hik : i = k
    · subst hik; rw [addAt_at]; exact ⟨hx, hxa⟩
    · rw [addAt_lt (by omega)]
      obtain ⟨h1, h2⟩ := h.done i (by omega)
      refine ⟨h1.ch hc (fun g hg hm => ?_), h2⟩
      simp only [List.mem_cons, List.not_mem_nil, or_false] at hm
      rcases hm with hm | hm
      · rcases h2 g hg with h3 | h3
        · exact hap i k g (by omega) hk hik h3 hm.symm
        · have := hlt k g hk hm.symm; omega
      · exact hout h1 hg hm.symm
  · by_cases hik : i = k
    · subst hik; exact hv
    · have h1 := h.was i (by omega)
      refine h1.ch hc (fun g hg hm => ?_)
      simp only [List.mem_cons, List.not_mem_nil, or_false] at hm
      rcases hm with hm | hm
      · exact hap i k g (by omega) hk hik hg hm.symm
      · exact hout h1 hg hm.symm
  · have h1 := h.left i (by omega) hiN
    refine own_ch h1 hc (fun g hg hm => ?_)
    simp only [List.mem_cons, List.not_mem_nil, or_false] at hm
    rcases hm with hm | hm
    · exact hap i k g hiN hk (by omega) hg hm.symm
    · obtain ⟨cs, hb⟩ := own_type h1 hg
      exact own_ne h.out hb (by decide) hm.symm
  · simp only [List.mem_cons, List.not_mem_nil, or_false] at hb
    rcases hb with hb | hb
    · obtain ⟨cs, hk'⟩ := own_type (h0 k hk) hb.symm
      exact .inr ⟨(World.ownsRow.lt (h0 k hk) b hb.symm).1, cs, _, List.mem_singleton.2 rfl, hk'⟩
    · exact .inl (World.ownsRow.lt h.out b hb.symm).1
end
set_option maxRecDepth 100000 in
set_option maxHeartbeats 4000000 in
theorem growTexts_any (gb B N : Nat) (ox ow lg lw : Value) (v : Nat → Value) (n : Nat → Nat) (w : World)
    (hb : Blk w gb 51 (bookCells lg lw ox ow)) (hK : KeptS w B N lg v (fun i => P.marksS i 0 (n i))) (hN : N ≤ 250) (hB : B ≤ w.heap.size) (hn : ∀ i, i < N → n i ≤ 1000) :
    Calls Tryz.prog 84 #[.pointer (some ⟨gb, 0, none⟩)] w (GivesGrowT w B N v n) := by
  obtain ⟨iL, hiL, hzL, hsL, hbL⟩ := info_parts infoStr
  obtain ⟨i0, hi0, hz0, hs0, hb0⟩ := info_parts infoSs
  have HB := Lib.hid hb
  have HK := Lib.hid hK
  have HN := Lib.hid hn
  have H0 := Lib.hid (show ∀ i, i < N → w.ownsRow B 9 1 (v i) (n i) ((P.marksS i 0 (n i)).flatMap strCells) from fun i hi => by have := hK.own i hi; rwa [P.marksS_len] at this)
  obtain ⟨Ag, cg, rfl, _⟩ := own_slice hK.outer
  clear hb hK hn
  go_enter Tryz.func84, Tryz.ntmps84
  go_wp2_with fail
  go_loopw [3, 4] (fun o x wr => ∃ (k : Nat) (q : Nat → Value), k ≤ N ∧ x = .int .i64 k ∧ GrowsT w B N k v n q o wr) (fun _ x _ => N - (intOf x).toNat)
  case atStart => exact ⟨0, v, by omega, rfl, World.ownsRow_nil _ _ _ _, fun i hi => by omega, fun i hi => by omega, fun i _ hi => H0.out i hi, Frame.refl _ _ _⟩
  case round =>
    obtain ⟨k, q, hk, rfl, hgs⟩ := hrel
    have GS := Lib.hid hgs
    have Br := Lib.hid (HB.out.frame hgs.fr (by decide))
    have zr := hgs.fr.size
    have c00 : wr.cell? ⟨gb, 0, none⟩ = some (.slice Ag N cg) := (Br.out.cell 0).trans rfl
    have Or := Lib.hid (own_frame HK.out.outer hgs.fr (by decide))
    obtain ⟨Ao, co, rfl, _⟩ := own_slice hgs.out
    clear hgs
    by_cases hlt : k < N
    · have t1 : decide ((k : Int) < (N : Int)) = true := by simp; omega
      obtain ⟨wo, rfl⟩ : ∃ wo : World, wo = wr := ⟨_, rfl⟩
      obtain ⟨g1, cap1, e1, hgB1, hg1⟩ := World.ownsRow.form Or.out (by omega)
      cases e1
      have OK := Lib.hid (GS.out.left k (Nat.le_refl _) hlt)
      obtain ⟨A1, c1, ev1, _⟩ := own_slice OK.out
      have EV := Lib.hid ev1
      have NK := HN.out k hlt
      have ce1 : wo.cell? ⟨g1, k, none⟩ = some (.slice A1 (n k) c1) := by
        have := Or.out.cells (g := g1) rfl k (v k) (by simp [hlt])
        rw [Addr.add_lit, Nat.zero_add] at this
        rw [this, ev1]
      have G0 := Lib.hid (GrowI.start OK.out)
      clear ev1
      go_wp2_with fail
      go_loopw [5, 6] (fun y x wq => ∃ j : Nat, j ≤ 12 ∧ x = .int .i64 j ∧ GrowI wo B 9 1 (v k) (n k) wq y (n k + j) ((P.marksS k 0 (n k + j)).flatMap strCells)) (fun _ x _ => 12 - (intOf x).toNat)
      case atStart => exact ⟨0, by omega, rfl, EV.out ▸ G0.out⟩
      case round =>
        obtain ⟨j, hj, rfl, hgi⟩ := hrel
        have GI := Lib.hid hgi
        obtain ⟨A5, c5, e5, _⟩ := own_slice hgi.own
        subst e5
        have zq := hgi.gr.size
        clear hgi
        by_cases hjl : j < 12
        · have t2 : decide ((j : Int) < 12) = true := by simp; omega
          have MK := markTextsT_any k (n k + j) 1 wr (by omega) (by omega) (by omega)
          rw [Int.natCast_add] at MK
          have MK := Lib.hid MK
          have MA := Lib.hid (show P.marksS k 0 (n k + j) ++ P.marksS k (n k + j) 1 = P.marksS k 0 (n k + (j + 1)) from by
            have := P.marksS_add k 0 (n k + j) 1
            rw [Nat.zero_add] at this
            exact this)
          have ML := Lib.hid (P.marksS_len k (n k + j) 1)
          go_wp2_with fail
          refine MK.out.mono ?_
          rintro x w2 ⟨vm, rfl, hom, hbm⟩
          obtain ⟨g2, cap2, e2, hg2B, hg2l⟩ := World.ownsRow.form hom (by rw [ML.out]; omega)
          subst e2
          rw [ML.out]
          have OM := Lib.hid (show w2.ownsRow wr.heap.size 9 1 (.slice (some ⟨g2, 0, none⟩) 1 cap2) 1 ((P.marksS k (n k + j) 1).flatMap strCells) from by have h := hom; unfold OwnT at h; rw [ML.out] at h; exact h)
          have G2 := Lib.hid (GI.out.stays hbm)
          have z2 := hbm.size
          clear hom hbm
          go_wp2_with (at_builtin; refine wpList_append_growI rfl (.tmp 27) (.tmp 31) 29 rfl iL _ 16 Tryz.underlying29 hiL hzL hsL hbL rfl (by omega) G2.out rfl (by omega) ⟨g2, 0, none⟩ 1 cap2 ((P.marksS k (n k + j) 1).flatMap strCells) rfl OM.out.1 (OM.out.cells (g := g2) rfl) (strs_one _) (by unfold maxLen; omega) (by omega) ?_; intro v' w4 hgi4 hgr4; rw [← List.flatMap_append, MA.out] at hgi4; have G4 := Lib.hid hgi4; clear hgi4 hgr4)
          go_roundw
          case rel => exact ⟨j + 1, by omega, by go_num, G4.out⟩
          case measure => simp [intOf]; omega
        · have t2 : decide ((j : Int) < 12) = false := by simp; omega
          obtain rfl : j = 12 := by omega
          have MK := markTextsT_any k (n k + 12) 60 wr (by omega) (by omega) (by omega)
          rw [Int.natCast_add] at MK
          have MK := Lib.hid MK
          have MA := Lib.hid (show P.marksS k 0 (n k + 12) ++ P.marksS k (n k + 12) 60 = P.marksS k 0 (n k + 72) from by
            have := P.marksS_add k 0 (n k + 12) 60
            rw [Nat.zero_add] at this
            exact this)
          have ML := Lib.hid (P.marksS_len k (n k + 12) 60)
          go_wp2_with fail
          refine MK.out.mono ?_
          rintro x w2 ⟨vm, rfl, hom, hbm⟩
          obtain ⟨g2, cap2, e2, hg2B, hg2l⟩ := World.ownsRow.form hom (by rw [ML.out]; omega)
          subst e2
          rw [ML.out]
          have OM := Lib.hid (show w2.ownsRow wr.heap.size 9 1 (.slice (some ⟨g2, 0, none⟩) 60 cap2) 60 ((P.marksS k (n k + 12) 60).flatMap strCells) from by have h := hom; unfold OwnT at h; rw [ML.out] at h; exact h)
          have G2 := Lib.hid (GI.out.stays hbm)
          have z2 := hbm.size
          clear hom hbm
          go_wp2_with (first
            | (at_builtin; refine wpList_append_growI rfl (.tmp 34) (.tmp 38) 29 rfl iL _ 16 Tryz.underlying29 hiL hzL hsL hbL rfl (by omega) G2.out rfl (by omega) ⟨g2, 0, none⟩ 60 cap2 ((P.marksS k (n k + 12) 60).flatMap strCells) rfl OM.out.1 (OM.out.cells (g := g2) rfl) (strs_one _) (by unfold maxLen; omega) (by omega) ?_; intro v' w4 hgi4 hgr4; rw [← List.flatMap_append, MA.out] at hgi4; obtain ⟨A6, c6, e6, _⟩ := own_slice hgi4.own; subst e6; have G4 := Lib.hid hgi4; have z4 := hgi4.gr.size; have O4 := Lib.hid (own_ch GS.out.out (Ch.of_grown hgi4.gr (List.mem_singleton.2 rfl)) (fun g hg hm => by
                have e := List.mem_singleton.1 hm
                obtain ⟨cs, hb⟩ := own_type OK.out e.symm
                exact own_ne GS.out.out hb (by decide) hg)); clear hgi4 hgr4)
            | (at_builtin; refine wpList_append_own (w4.alloc (.cells #[.slice A6 (n k + 12 + 60) c6] 29)) rfl (.tmp 33) (.tmp 40) 33 rfl w.heap.size 29 i0 (.slice none 0 0) 1 24 Tryz.underlying33 hi0 hz0 hs0 hb0 rfl (by omega) (.slice Ao k co) k ((List.range k).map q) rfl (own_stays O4.out (Stays.alloc _ _)) ⟨w4.heap.size, 0, none⟩ 1 1 [.slice A6 (n k + 12 + 60) c6] rfl rfl (cell_one_new _ _ _) (by simp [Value.oneCell']) (by unfold maxLen; omega) (by omega) (by simp; omega) ?_; intro o' w5 hown5 hgr5 _; have O5 := Lib.hid hown5; have R5 := Lib.hid ((Stays.alloc w4 (.cells #[.slice A6 (n k + 12 + 60) c6] 29)).grown (Value.ownBlock (.slice Ao k co)) |>.trans hgr5); clear hown5 hgr5))
          have CH := Lib.hid (show Ch [(v k).ownBlock, Value.ownBlock (.slice Ao k co)] wo w5 from (Ch.of_grown G4.out.gr (by simp)).trans (Ch.of_grown R5.out (by simp)))
          have CO := Lib.hid (show Ch [Value.ownBlock (.slice Ao k co)] w4 w5 from Ch.of_grown R5.out (by simp))
          have RX := Lib.hid (ReadsT.ch (ReadsT.of_own (ls := P.marksS k 0 (n k + 72)) G4.out.own (P.marksS_len _ _ _)) CO.out (fun g hg hm => by
            have e := List.mem_singleton.1 hm
            obtain ⟨cs, hb⟩ := own_type G4.out.own hg
            exact own_ne O4.out hb (by decide) e.symm))
          have RV := Lib.hid (ReadsT.ch (G4.out.readsT OK.out (P.marksS_len _ _ _)) CO.out (fun g hg hm => by
            have e := List.mem_singleton.1 hm
            obtain ⟨cs, hb⟩ := G4.out.ty g hg
            exact own_ne O4.out hb (by decide) e.symm))
          have NX := Lib.hid (GS.out.next hlt H0.out HK.out.apart CH.out O5.out RX.out (fun g hg => by
            rcases G4.out.at_ with h1 | ⟨g', h1, h2⟩
            · exact .inl (h1 ▸ hg)
            · rw [h1] at hg
              cases hg
              exact .inr (by omega)) RV.out)
          go_wp2
          go_roundw
          case rel => exact ⟨k + 1, _, by omega, by go_num, NX.out⟩
          case measure => simp [intOf]; omega
    · have t1 : decide ((k : Int) < (N : Int)) = false := by simp; omega
      have hkn : k = N := by omega
      subst hkn
      go_wp2
      go_ret
      exact ⟨_, q, rfl, GS.out.out, fun i hi => (GS.out.done i hi).1, GS.out.was, GS.out.fr⟩
end Go.Proofs.YtemjipongehjlaaGreat
/- Small words for the book's Apart. -/
namespace Go.Proofs.YtemjipongehjlaaGreat
set_option linter.unusedVariables false
open Go Go.RowKit
theorem Kept.congr {α : Type} {f : α → List Value} {size : Nat} {E T1 : TypeId} {w : World} {B N : Nat} {V : Value} {v : Nat → Value} {l l' : Nat → List α} (h : Kept f size E T1 w B N V v l) (he : ∀ i, i < N → l i = l' i) : Kept f size E T1 w B N V v l' :=
  ⟨h.outer, fun i hi => he i hi ▸ h.own i hi, h.apart, fun i hi => he i hi ▸ h.few i hi⟩
theorem Ch.of_frame_keep {w w' : World} {B : Nat} {T : List TypeId} (h : Frame w w' B T) {g : Nat} {t : TypeId} {cs : Array Value} (hk : Blk w g t cs) (ht : t ∉ T) : w'.heap[g]? = w.heap[g]? := (hk.frame h ht).trans (show w.heap[g]? = _ from hk).symm
section
variable {w w' : World} {x : Value}
theorem ReadsL.stays {ls : List P.Leg} (h : ReadsL w x ls) (hs : Stays w w') : ReadsL w' x ls := h.ch (Ch.of_stays hs []) (fun _ _ hm => by cases hm)
theorem ReadsT.stays {ls : List ByteArray} (h : ReadsT w x ls) (hs : Stays w w') : ReadsT w' x ls := h.ch (Ch.of_stays hs []) (fun _ _ hm => by cases hm)
theorem ReadsL.told {ls : List P.Leg} {n : Nat} (h : ReadsL w x ls) (hn : ls.length = n) : ∃ A c, x = .slice A n c ∧ LegsAt w w.heap.size A n ls := by
  subst hn
  obtain ⟨A, c, e, hl, _⟩ := h
  exact ⟨A, c, e, hl⟩
theorem ReadsT.told {ls : List ByteArray} {n : Nat} (h : ReadsT w x ls) (hn : ls.length = n) : ∃ A c, x = .slice A n c ∧ TextsAt w w.heap.size A n ls := by
  subst hn
  obtain ⟨A, c, e, hl, _⟩ := h
  exact ⟨A, c, e, hl⟩
theorem ReadsT.frame {B : Nat} {T : List TypeId} {ls : List ByteArray} (h : ReadsT w x ls) (hf : Frame w w' B T) (ht : 9 ∉ T) : ReadsT w' x ls := by
  obtain ⟨A, c, rfl, hl, hb⟩ := h
  refine ⟨A, c, rfl, ⟨hl.1, fun hp => ?_⟩, fun g hg => ?_⟩
  · obtain ⟨ad, e, hab, hcell⟩ := hl.2 hp
    subst e
    obtain ⟨cs, hk⟩ := hb ad.block rfl
    have hkk := Ch.of_frame_keep hf hk ht
    refine ⟨ad, rfl, Nat.lt_of_lt_of_le hab hf.size, fun j u hu => ?_⟩
    rw [← hcell j u hu]
    exact World.cell?_of_block (w := w) (a := ad.add j) (by rw [block_of_add]; exact hkk)
  · obtain ⟨cs, hk⟩ := hb g hg
    exact ⟨cs, hk.frame hf ht⟩
end
end Go.Proofs.YtemjipongehjlaaGreat
