/- What stillLegs says: each list is as it was. -/
import Derived.Test.YtemjipongehjlaaGreatL14
namespace Go.Proofs.YtemjipongehjlaaGreat
set_option linter.unusedVariables false
open Go.RowKit Go.BigFrame
section
variable {α : Type} {f : α → List Value} {size : Nat} {E T1 : TypeId} {w w' : World} {B N : Nat} {V : Value} {v : Nat → Value} {l : Nat → List α}
/-- Where the k-th list lies in the list of lists. -/
theorem Kept.at_ (h : Kept f size E T1 w B N V v l) {k : Nat} (hk : k < N) : ∃ g cap, V = .slice (some ⟨g, 0, none⟩) N cap ∧ g < w.heap.size ∧ w.cell? ⟨g, k, none⟩ = some (v k) := by
  obtain ⟨g, cap, hv, _, hlt⟩ := World.ownsRow.form h.outer (by omega)
  refine ⟨g, cap, hv, hlt, ?_⟩
  have := h.outer.cells (g := g) (by rw [hv]; rfl) k (v k) (by simp [hk])
  rw [Addr.add_lit, Nat.zero_add] at this
  exact this
end
set_option maxRecDepth 100000 in
set_option maxHeartbeats 4000000 in
theorem stillLegs_any (gb B N : Nat) (tx tw lg lw : Value) (v u : Nat → Value) (l : Nat → List P.Leg) (w : World)
    (hb : Blk w gb 51 (bookCells tx tw lg lw)) (hK : KeptL w B N lg v l) (hU : KeptL w B N lw u l) (hN : N ≤ 250) :
    Calls Tryz.prog 60 #[.pointer (some ⟨gb, 0, none⟩)] w fun e w' => e = .returned (.bool true) ∧ Below w.heap.size w w' := by
  have HB := Lib.hid hb
  have HK := Lib.hid hK
  have HU := Lib.hid hU
  obtain ⟨Ag, cg, rfl, _⟩ := own_slice hK.outer
  obtain ⟨Aw, cw, rfl, _⟩ := own_slice hU.outer
  clear hb hK hU
  go_enter Tryz.func60, Tryz.ntmps60
  go_wp2_with fail
  go_loopw [3] (fun x wr => ∃ k : Nat, k ≤ N ∧ x = .int .i64 k ∧ Stays w wr) (fun x _ => N - (intOf x).toNat)
  case atStart => exact ⟨0, by omega, rfl, Stays.refl _⟩
  case round =>
    obtain ⟨k, hk, rfl, hsr⟩ := hrel
    have SR := Lib.hid hsr
    have Br := Lib.hid (HB.out.stays hsr)
    have c20 : wr.cell? ⟨gb, 20, none⟩ = some (.slice Ag N cg) := (Br.out.cell 20).trans rfl
    clear hsr
    by_cases hlt : k < N
    · have t1 : decide ((k : Int) < (N : Int)) = true := by simp; omega
      have Kr := Lib.hid (HK.out.stays SR.out)
      have Ur := Lib.hid (HU.out.stays SR.out)
      obtain ⟨g1, cap1, e1, hg1, ce1⟩ := Kr.out.at_ hlt
      cases e1
      obtain ⟨g2, cap2, e2, hg2, ce2⟩ := Ur.out.at_ hlt
      cases e2
      obtain ⟨A1, c1, ev1, _⟩ := own_slice (Kr.out.own k hlt)
      obtain ⟨A2, c2, ev2, _⟩ := own_slice (Ur.out.own k hlt)
      have L1 := Lib.hid (OwnL.legs (show OwnL wr B (.slice A1 (l k).length c1) (l k) from ev1 ▸ Kr.out.own k hlt))
      have L2 := Lib.hid (OwnL.legs (show OwnL wr B (.slice A2 (l k).length c2) (l k) from ev2 ▸ Ur.out.own k hlt))
      have FW := Lib.hid (HK.out.few k hlt)
      rw [ev1] at ce1
      rw [ev2] at ce2
      have SL := Lib.hid (fun x : Ext wr => sameLegs_any A1 (l k).length c1 (l k) A2 c2 x.wd.heap.size x.wd ((L1.out.below x.hb).more x.hb.size) ((L2.out.below x.hb).more x.hb.size) (Nat.le_refl _) (by have := FW.out; unfold maxLen; omega))
      have cb20 : ∀ x : Ext wr, x.wd.cell? ⟨gb, 20, none⟩ = some (.slice (some ⟨g1, 0, none⟩) N cg) := fun x => by rw [x.cell Br.out.lt]; exact c20
      have cb21 : ∀ x : Ext wr, x.wd.cell? ⟨gb, 21, none⟩ = some (.slice (some ⟨g2, 0, none⟩) N cw) := fun x => by rw [x.cell Br.out.lt]; exact (Br.out.cell 21).trans rfl
      have cv1 : ∀ x : Ext wr, x.wd.cell? ⟨g1, k, none⟩ = some (.slice A1 (l k).length c1) := fun x => by rw [x.cell hg1]; exact ce1
      have cv2 : ∀ x : Ext wr, x.wd.cell? ⟨g2, k, none⟩ = some (.slice A2 (l k).length c2) := fun x => by rw [x.cell hg2]; exact ce2
      clear ev1 ev2 ce1 ce2
      go_wp2_with fail
      clear c20
      refine wp_region_ext (by kernel_rfl) (by kernel_rfl) ?_
      repeat (first | go_big_quiet_step ((go_at_call 14; exact Ext.calls _ (SL.out _))) | quiet_step ((go_at_call 14; exact Ext.calls _ (SL.out _))))
      refine wpQuiet_nil ?_
      intro w5 hb5
      have S5 := Lib.hid (SR.out.trans (show Stays wr w5 from hb5))
      clear hb5 cb20 cb21 cv1 cv2
      go_wp2
      go_roundw
      case rel => exact ⟨k + 1, by omega, by go_num, S5.out⟩
      case measure => simp [intOf]; omega
    · have t1 : decide ((k : Int) < (N : Int)) = false := by simp; omega
      go_wp2
      go_ret
      exact ⟨rfl, SR.out⟩
set_option maxRecDepth 100000 in
set_option maxHeartbeats 4000000 in
theorem markedLegs_any (B N cap : Nat) (A : Option Addr) (v : Nat → Value) (n : Nat → Nat) (w : World)
    (ho : w.ownsRow B 26 1 (.slice A N cap) N ((List.range N).map v)) (hv : ∀ i, i < N → ∃ A c, v i = .slice A (n i) c ∧ LegsAt w w.heap.size A (n i) (P.marksL i 0 (n i))) (hn : ∀ i, i < N → n i ≤ 100000) (hN : N ≤ 250) :
    Calls Tryz.prog 111 #[.slice A N cap] w fun e w' => e = .returned (.bool true) ∧ Below w.heap.size w w' := by
  have HO := Lib.hid ho
  have HV := Lib.hid hv
  have HN := Lib.hid hn
  clear ho hv hn
  go_enter Tryz.func111, Tryz.ntmps111
  go_wp2_with fail
  go_loopw [3] (fun x wr => ∃ k : Nat, k ≤ N ∧ x = .int .i64 k ∧ Stays w wr) (fun x _ => N - (intOf x).toNat)
  case atStart => exact ⟨0, by omega, rfl, Stays.refl _⟩
  case round =>
    obtain ⟨k, hk, rfl, hsr⟩ := hrel
    have SR := Lib.hid hsr
    clear hsr
    by_cases hlt : k < N
    · have t1 : decide ((k : Int) < (N : Int)) = true := by simp; omega
      have OR := Lib.hid (own_stays HO.out SR.out)
      obtain ⟨g1, cap1, e1, _, hg1⟩ := World.ownsRow.form OR.out (by omega)
      cases e1
      have ce1 : wr.cell? ⟨g1, k, none⟩ = some (v k) := by
        have := OR.out.cells (g := g1) rfl k (v k) (by simp [hlt])
        rw [Addr.add_lit, Nat.zero_add] at this
        exact this
      obtain ⟨A1, c1, ev1, hl1⟩ := HV.out k hlt
      have L1 := Lib.hid ((hl1.below SR.out).more SR.out.size)
      have NK := Lib.hid (HN.out k hlt)
      rw [ev1] at ce1
      have cv1 : ∀ x : Ext wr, x.wd.cell? ⟨g1, k, none⟩ = some (.slice A1 (n k) c1) := fun x => by rw [x.cell hg1]; exact ce1
      clear ev1 hl1 ce1
      generalize n k = m at *
      have SL := Lib.hid (fun (W : World) (hW : Stays wr W) (A2 : Option Addr) (c2 : Nat) (h2 : LegsAt W W.heap.size A2 m (P.marksL k 0 m)) => sameLegs_any A1 m c1 (P.marksL k 0 m) A2 c2 W.heap.size W ((L1.out.below hW).more hW.size) h2 (Nat.le_refl _) (by have := NK.out; unfold maxLen; omega))
      have MK := Lib.hid (fun W => markLegs_any k 0 m W (by omega) (by omega) (by have := NK.out; omega))
      go_wp2_with fail
      refine wp_region_free 13 [] Stays (fun | 10 => some fun v w' => OwnL w' wr.heap.size v (P.marksL k 0 m) | _ => none) (by kernel_rfl) (by kernel_rfl) Stays.refl (by simp) (Stays.draw _) Stays.trans ?_ ?_
      · intro j φ v x y hB hp hxy
        split at hB <;> cases hB
        exact OwnL.stays hp hxy
      · apply wpFree_pure rfl rfl
        · intro vs wx hk K hK
          go_simp
          exact hK _ (Stays.refl _)
        intro KK hKK
        go_simp
        refine hKK _ ?_
        clear hKK KK
        apply wpFree_pure rfl rfl
        · intro vs wx hk K hK
          go_simp
          exact hK _ (Stays.refl _)
        intro KK hKK
        go_simp
        refine hKK _ ?_
        clear hKK KK
        apply wpFree_pure rfl rfl
        · intro vs wx hk K hK
          go_simp
          exact hK _ (Stays.refl _)
        intro KK hKK
        go_simp
        refine hKK _ ?_
        clear hKK KK
        apply wpFree_pure rfl rfl
        · intro vs wx hk K hK
          have c1 := (hk.1.cell (p := ⟨g1, k, none⟩) hg1).trans (cv1 ⟨wr, Below.refl _ _⟩)
          go_simp
          exact hK _ (Stays.refl _)
        intro KK hKK
        go_simp
        refine hKK _ ?_
        clear hKK KK
        apply wpFree_pure rfl rfl
        · intro vs wx hk K hK
          go_simp
          exact hK _ (Stays.refl _)
        intro KK hKK
        go_simp
        refine hKK _ ?_
        clear hKK KK
        apply wpFree_pure rfl rfl
        · intro vs wx hk K hK
          go_simp
          exact hK _ (Stays.refl _)
        intro KK hKK
        go_simp
        refine hKK _ ?_
        clear hKK KK
        apply wpFree_pure rfl rfl
        · intro vs wx hk K hK
          go_simp
          exact hK _ (Stays.refl _)
        intro KK hKK
        go_simp
        refine hKK _ ?_
        clear hKK KK
        apply wpFree_pure rfl rfl
        · intro vs wx hk K hK
          go_simp
          exact hK _ (Stays.refl _)
        intro KK hKK
        go_simp
        refine hKK _ ?_
        clear hKK KK
        apply wpFree_pure rfl rfl
        · intro vs wx hk K hK
          have c1 := (hk.1.cell (p := ⟨g1, k, none⟩) hg1).trans (cv1 ⟨wr, Below.refl _ _⟩)
          go_simp
          exact hK _ (Stays.refl _)
        intro KK hKK
        go_simp
        refine hKK _ ?_
        clear hKK KK
        apply wpFree_pure rfl rfl
        · intro vs wx hk K hK
          go_simp
          exact hK _ (Stays.refl _)
        intro KK hKK
        go_simp
        refine hKK _ ?_
        clear hKK KK
        refine wpFree_fact rfl ?_ ?_
        · intro vs wx hk K hK
          have MA := MK.out wx
          go_simp
          exact MA.mono fun x w' ⟨v, hx, ho, hb'⟩ => ⟨v, hx, hK _ _ hb' (ho.less hk.1.size)⟩
        intro KK hKK
        go_simp
        refine hKK _ ?_
        clear hKK KK
        apply wpFree_pure rfl rfl
        · intro vs wx hk K hK
          obtain ⟨A2, c2, hv, hs⟩ := OwnL.reads (hk.2 10 _ rfl (by kernel_rfl))
          rw [P.marksL_len] at hv hs
          have CC := SL.out wx hk.1 A2 c2 hs
          go_simp
          first
            | exact hK _ (Stays.refl _)
            | exact Calls.free hK CC
        intro KK hKK
        go_simp
        refine hKK _ ?_
        clear hKK KK
        apply wpFree_pure rfl rfl
        · intro vs wx hk K hK
          go_simp
          exact hK _ (Stays.refl _)
        intro KK hKK
        go_simp
        refine hKK _ ?_
        clear hKK KK
        refine wpFree_nil ?_
        intro vs w4 hs4 _
        have S4 := Lib.hid (SR.out.trans hs4)
        clear hs4 cv1
        intro KK hKK
        simp only [List.drop_succ_cons, List.drop_nil]
        go_wp2
        go_roundw
        case rel => exact ⟨k + 1, by omega, by go_num, S4.out⟩
        case measure => simp [intOf]; omega
    · have t1 : decide ((k : Int) < (N : Int)) = false := by simp; omega
      go_wp2
      go_ret
      exact ⟨rfl, SR.out⟩
end Go.Proofs.YtemjipongehjlaaGreat
/- What stillTexts and markedTexts say. -/
namespace Go.Proofs.YtemjipongehjlaaGreat
set_option linter.unusedVariables false
open Go.RowKit Go.BigFrame
def OwnT (w : World) (B : Nat) (v : Value) (l : List ByteArray) : Prop := w.ownsRow B 9 1 v l.length (l.flatMap strCells)
def TextsAt (w : World) (B : Nat) (A : Option Addr) (n : Nat) (l : List ByteArray) : Prop := Reads w B 1 A n (l.flatMap strCells)
section
variable {w w' : World} {B B' n : Nat} {A : Option Addr} {v : Value} {l : List ByteArray}
theorem TextsAt.strs (h : TextsAt w B A n l) : StrsAt w B A n l := by unfold TextsAt at h; rw [strCells_map] at h; exact h
theorem TextsAt.below (h : TextsAt w B A n l) (hb : Below B w w') : TextsAt w' B A n l := Reads.below h hb
theorem TextsAt.more (h : TextsAt w B A n l) (hB : B ≤ B') : TextsAt w B' A n l := Reads.more h hB
theorem OwnT.stays (h : OwnT w B v l) (hs : Stays w w') : OwnT w' B v l := own_stays h hs
theorem OwnT.less (h : OwnT w B v l) (hB : B' ≤ B) : OwnT w B' v l := own_less h hB
theorem OwnT.legs {m c : Nat} (h : OwnT w B (.slice A m c) l) : TextsAt w w.heap.size A m l := by
  obtain ⟨A', c', e, _⟩ := own_slice h
  cases e
  exact Reads.of_own h
theorem OwnT.reads (h : OwnT w B v l) : ∃ A c, v = .slice A l.length c ∧ TextsAt w w.heap.size A l.length l := by
  obtain ⟨A, c, rfl, _⟩ := own_slice h
  exact ⟨A, c, rfl, OwnT.legs h⟩
theorem strs_one (l : List ByteArray) : ∀ u ∈ l.flatMap strCells, u.oneCell' = true := fun u hu => by
  rw [strCells_map] at hu
  obtain ⟨b, _, rfl⟩ := List.mem_map.1 hu
  rfl
end
def GivesT (w : World) (l : List ByteArray) (x : Ending) (w' : World) : Prop := ∃ v, x = .returned v ∧ OwnT w' w.heap.size v l ∧ Below w.heap.size w w'
theorem markTextsT_any (i f n : Nat) (w : World) (hi : i ≤ 1000000) (hf : f ≤ 100000000) (hn : n ≤ 100000000) :
    Calls Tryz.prog 154 #[.int .i64 i, .int .i64 f, .int .i64 n] w (GivesT w (P.marksS i f n)) :=
  (markTexts_any i f n w hi hf hn).mono fun _ _ ⟨v, hx, ho, hb⟩ => ⟨v, hx, ho.flat, hb⟩
theorem sameTextsT_any (A : Option Addr) (m cp : Nat) (ls : List ByteArray) (Ab : Option Addr) (cpb : Nat) (B : Nat) (w : World)
    (ha : TextsAt w B A m ls) (hb : TextsAt w B Ab m ls) (hB : B ≤ w.heap.size) (hm : m ≤ maxLen) :
    Calls Tryz.prog 16 #[.slice A m cp, .slice Ab m cpb] w fun e w' => e = .returned (.bool true) ∧ Below w.heap.size w w' := sameTexts_any A m cp ls Ab cpb B w ha.strs hb.strs hB hm
set_option maxRecDepth 100000 in
set_option maxHeartbeats 4000000 in
theorem stillTexts_any (gb B N : Nat) (ox ow lg lw : Value) (v u : Nat → Value) (l : Nat → List ByteArray) (w : World)
    (hb : Blk w gb 51 (bookCells lg lw ox ow)) (hK : KeptS w B N lg v l) (hU : KeptS w B N lw u l) (hN : N ≤ 250) :
    Calls Tryz.prog 50 #[.pointer (some ⟨gb, 0, none⟩)] w fun e w' => e = .returned (.bool true) ∧ Below w.heap.size w w' := by
  have HB := Lib.hid hb
  have HK := Lib.hid hK
  have HU := Lib.hid hU
  obtain ⟨Ag, cg, rfl, _⟩ := own_slice hK.outer
  obtain ⟨Aw, cw, rfl, _⟩ := own_slice hU.outer
  clear hb hK hU
  go_enter Tryz.func50, Tryz.ntmps50
  go_wp2_with fail
  go_loopw [3] (fun x wr => ∃ k : Nat, k ≤ N ∧ x = .int .i64 k ∧ Stays w wr) (fun x _ => N - (intOf x).toNat)
  case atStart => exact ⟨0, by omega, rfl, Stays.refl _⟩
  case round =>
    obtain ⟨k, hk, rfl, hsr⟩ := hrel
    have SR := Lib.hid hsr
    have Br := Lib.hid (HB.out.stays hsr)
    have c00 : wr.cell? ⟨gb, 0, none⟩ = some (.slice Ag N cg) := (Br.out.cell 0).trans rfl
    clear hsr
    by_cases hlt : k < N
    · have t1 : decide ((k : Int) < (N : Int)) = true := by simp; omega
      have Kr := Lib.hid (HK.out.stays SR.out)
      have Ur := Lib.hid (HU.out.stays SR.out)
      obtain ⟨g1, cap1, e1, hg1, ce1⟩ := Kr.out.at_ hlt
      cases e1
      obtain ⟨g2, cap2, e2, hg2, ce2⟩ := Ur.out.at_ hlt
      cases e2
      obtain ⟨A1, c1, ev1, _⟩ := own_slice (Kr.out.own k hlt)
      obtain ⟨A2, c2, ev2, _⟩ := own_slice (Ur.out.own k hlt)
      have L1 := Lib.hid (OwnT.legs (show OwnT wr B (.slice A1 (l k).length c1) (l k) from ev1 ▸ Kr.out.own k hlt))
      have L2 := Lib.hid (OwnT.legs (show OwnT wr B (.slice A2 (l k).length c2) (l k) from ev2 ▸ Ur.out.own k hlt))
      have FW := Lib.hid (HK.out.few k hlt)
      rw [ev1] at ce1
      rw [ev2] at ce2
      have SL := Lib.hid (fun x : Ext wr => sameTextsT_any A1 (l k).length c1 (l k) A2 c2 x.wd.heap.size x.wd ((L1.out.below x.hb).more x.hb.size) ((L2.out.below x.hb).more x.hb.size) (Nat.le_refl _) (by have := FW.out; unfold maxLen; omega))
      have cb00 : ∀ x : Ext wr, x.wd.cell? ⟨gb, 0, none⟩ = some (.slice (some ⟨g1, 0, none⟩) N cg) := fun x => by rw [x.cell Br.out.lt]; exact c00
      have cb21 : ∀ x : Ext wr, x.wd.cell? ⟨gb, 1, none⟩ = some (.slice (some ⟨g2, 0, none⟩) N cw) := fun x => by rw [x.cell Br.out.lt]; exact (Br.out.cell 1).trans rfl
      have cv1 : ∀ x : Ext wr, x.wd.cell? ⟨g1, k, none⟩ = some (.slice A1 (l k).length c1) := fun x => by rw [x.cell hg1]; exact ce1
      have cv2 : ∀ x : Ext wr, x.wd.cell? ⟨g2, k, none⟩ = some (.slice A2 (l k).length c2) := fun x => by rw [x.cell hg2]; exact ce2
      clear ev1 ev2 ce1 ce2
      go_wp2_with fail
      clear c00
      refine wp_region_ext (by kernel_rfl) (by kernel_rfl) ?_
      repeat (first | go_big_quiet_step ((go_at_call 16; exact Ext.calls _ (SL.out _))) | quiet_step ((go_at_call 16; exact Ext.calls _ (SL.out _))))
      refine wpQuiet_nil ?_
      intro w5 hb5
      have S5 := Lib.hid (SR.out.trans (show Stays wr w5 from hb5))
      clear hb5 cb00 cb21 cv1 cv2
      go_wp2
      go_roundw
      case rel => exact ⟨k + 1, by omega, by go_num, S5.out⟩
      case measure => simp [intOf]; omega
    · have t1 : decide ((k : Int) < (N : Int)) = false := by simp; omega
      go_wp2
      go_ret
      exact ⟨rfl, SR.out⟩
set_option maxRecDepth 100000 in
set_option maxHeartbeats 4000000 in
theorem markedTexts_any (B N cap : Nat) (A : Option Addr) (v : Nat → Value) (n : Nat → Nat) (w : World)
    (ho : w.ownsRow B 29 1 (.slice A N cap) N ((List.range N).map v)) (hv : ∀ i, i < N → ∃ A c, v i = .slice A (n i) c ∧ TextsAt w w.heap.size A (n i) (P.marksS i 0 (n i))) (hn : ∀ i, i < N → n i ≤ 100000) (hN : N ≤ 250) :
    Calls Tryz.prog 101 #[.slice A N cap] w fun e w' => e = .returned (.bool true) ∧ Below w.heap.size w w' := by
  have HO := Lib.hid ho
  have HV := Lib.hid hv
  have HN := Lib.hid hn
  clear ho hv hn
  go_enter Tryz.func101, Tryz.ntmps101
  go_wp2_with fail
  go_loopw [3] (fun x wr => ∃ k : Nat, k ≤ N ∧ x = .int .i64 k ∧ Stays w wr) (fun x _ => N - (intOf x).toNat)
  case atStart => exact ⟨0, by omega, rfl, Stays.refl _⟩
  case round =>
    obtain ⟨k, hk, rfl, hsr⟩ := hrel
    have SR := Lib.hid hsr
    clear hsr
    by_cases hlt : k < N
    · have t1 : decide ((k : Int) < (N : Int)) = true := by simp; omega
      have OR := Lib.hid (own_stays HO.out SR.out)
      obtain ⟨g1, cap1, e1, _, hg1⟩ := World.ownsRow.form OR.out (by omega)
      cases e1
      have ce1 : wr.cell? ⟨g1, k, none⟩ = some (v k) := by
        have := OR.out.cells (g := g1) rfl k (v k) (by simp [hlt])
        rw [Addr.add_lit, Nat.zero_add] at this
        exact this
      obtain ⟨A1, c1, ev1, hl1⟩ := HV.out k hlt
      have L1 := Lib.hid ((hl1.below SR.out).more SR.out.size)
      have NK := Lib.hid (HN.out k hlt)
      rw [ev1] at ce1
      have cv1 : ∀ x : Ext wr, x.wd.cell? ⟨g1, k, none⟩ = some (.slice A1 (n k) c1) := fun x => by rw [x.cell hg1]; exact ce1
      clear ev1 hl1 ce1
      generalize n k = m at *
      have SL := Lib.hid (fun (W : World) (hW : Stays wr W) (A2 : Option Addr) (c2 : Nat) (h2 : TextsAt W W.heap.size A2 m (P.marksS k 0 m)) => sameTextsT_any A1 m c1 (P.marksS k 0 m) A2 c2 W.heap.size W ((L1.out.below hW).more hW.size) h2 (Nat.le_refl _) (by have := NK.out; unfold maxLen; omega))
      have MK := Lib.hid (fun W => markTextsT_any k 0 m W (by omega) (by omega) (by have := NK.out; omega))
      go_wp2_with fail
      refine wp_region_free 13 [] Stays (fun | 10 => some fun v w' => OwnT w' wr.heap.size v (P.marksS k 0 m) | _ => none) (by kernel_rfl) (by kernel_rfl) Stays.refl (by simp) (Stays.draw _) Stays.trans ?_ ?_
      · intro j φ v x y hB hp hxy
        split at hB <;> cases hB
        exact OwnT.stays hp hxy
      · apply wpFree_pure rfl rfl
        · intro vs wx hk K hK
          go_simp
          exact hK _ (Stays.refl _)
        intro KK hKK
        go_simp
        refine hKK _ ?_
        clear hKK KK
        apply wpFree_pure rfl rfl
        · intro vs wx hk K hK
          go_simp
          exact hK _ (Stays.refl _)
        intro KK hKK
        go_simp
        refine hKK _ ?_
        clear hKK KK
        apply wpFree_pure rfl rfl
        · intro vs wx hk K hK
          go_simp
          exact hK _ (Stays.refl _)
        intro KK hKK
        go_simp
        refine hKK _ ?_
        clear hKK KK
        apply wpFree_pure rfl rfl
        · intro vs wx hk K hK
          have c1 := (hk.1.cell (p := ⟨g1, k, none⟩) hg1).trans (cv1 ⟨wr, Below.refl _ _⟩)
          go_simp
          exact hK _ (Stays.refl _)
        intro KK hKK
        go_simp
        refine hKK _ ?_
        clear hKK KK
        apply wpFree_pure rfl rfl
        · intro vs wx hk K hK
          go_simp
          exact hK _ (Stays.refl _)
        intro KK hKK
        go_simp
        refine hKK _ ?_
        clear hKK KK
        apply wpFree_pure rfl rfl
        · intro vs wx hk K hK
          go_simp
          exact hK _ (Stays.refl _)
        intro KK hKK
        go_simp
        refine hKK _ ?_
        clear hKK KK
        apply wpFree_pure rfl rfl
        · intro vs wx hk K hK
          go_simp
          exact hK _ (Stays.refl _)
        intro KK hKK
        go_simp
        refine hKK _ ?_
        clear hKK KK
        apply wpFree_pure rfl rfl
        · intro vs wx hk K hK
          go_simp
          exact hK _ (Stays.refl _)
        intro KK hKK
        go_simp
        refine hKK _ ?_
        clear hKK KK
        apply wpFree_pure rfl rfl
        · intro vs wx hk K hK
          have c1 := (hk.1.cell (p := ⟨g1, k, none⟩) hg1).trans (cv1 ⟨wr, Below.refl _ _⟩)
          go_simp
          exact hK _ (Stays.refl _)
        intro KK hKK
        go_simp
        refine hKK _ ?_
        clear hKK KK
        apply wpFree_pure rfl rfl
        · intro vs wx hk K hK
          go_simp
          exact hK _ (Stays.refl _)
        intro KK hKK
        go_simp
        refine hKK _ ?_
        clear hKK KK
        refine wpFree_fact rfl ?_ ?_
        · intro vs wx hk K hK
          have MA := MK.out wx
          go_simp
          exact MA.mono fun x w' ⟨v, hx, ho, hb'⟩ => ⟨v, hx, hK _ _ hb' (ho.less hk.1.size)⟩
        intro KK hKK
        go_simp
        refine hKK _ ?_
        clear hKK KK
        apply wpFree_pure rfl rfl
        · intro vs wx hk K hK
          obtain ⟨A2, c2, hv, hs⟩ := OwnT.reads (hk.2 10 _ rfl (by kernel_rfl))
          rw [P.marksS_len] at hv hs
          have CC := SL.out wx hk.1 A2 c2 hs
          go_simp
          first
            | exact hK _ (Stays.refl _)
            | exact Calls.free hK CC
        intro KK hKK
        go_simp
        refine hKK _ ?_
        clear hKK KK
        apply wpFree_pure rfl rfl
        · intro vs wx hk K hK
          go_simp
          exact hK _ (Stays.refl _)
        intro KK hKK
        go_simp
        refine hKK _ ?_
        clear hKK KK
        refine wpFree_nil ?_
        intro vs w4 hs4 _
        have S4 := Lib.hid (SR.out.trans hs4)
        clear hs4 cv1
        intro KK hKK
        simp only [List.drop_succ_cons, List.drop_nil]
        go_wp2
        go_roundw
        case rel => exact ⟨k + 1, by omega, by go_num, S4.out⟩
        case measure => simp [intOf]; omega
    · have t1 : decide ((k : Int) < (N : Int)) = false := by simp; omega
      go_wp2
      go_ret
      exact ⟨rfl, SR.out⟩
end Go.Proofs.YtemjipongehjlaaGreat
/- What putLegs leaves: each list has its marks. -/
namespace Go.Proofs.YtemjipongehjlaaGreat
set_option linter.unusedVariables false
open Go.RowKit Go.BigFrame
/-- A list of which the first j elements have been replaced. -/
def mixed {α : Type} (a b : List α) (j : Nat) : List α := a.take j ++ b.drop j
theorem mixed_len {α : Type} {a b : List α} (h : a.length = b.length) {j : Nat} (hj : j ≤ b.length) : (mixed a b j).length = b.length := by unfold mixed; rw [List.length_append, List.length_take, List.length_drop]; omega
theorem mixed_zero {α : Type} (a b : List α) : mixed a b 0 = b := by simp [mixed]
theorem mixed_all {α : Type} {a b : List α} (h : a.length = b.length) : mixed a b b.length = a := by
  unfold mixed
  rw [List.take_of_length_le (by omega), List.drop_eq_nil_of_le (Nat.le_refl _), List.append_nil]
theorem mixed_set {α : Type} {a b : List α} (h : a.length = b.length) {j : Nat} (hj : j < b.length) {x : α} (hx : a[j]? = some x) : (mixed a b j).set j x = mixed a b (j + 1) := by
  unfold mixed
  rw [List.take_add_one, hx, List.set_append_right _ _ (by rw [List.length_take]; omega)]
  rw [List.length_take, show j - min j a.length = 0 by omega, List.drop_eq_getElem_cons hj, List.set_cons_zero, List.append_assoc]
  rfl
section
variable {w w' : World} {B : Nat}
theorem own_there {E : TypeId} {size n c g o m : Nat} {xs : List Value} (h : w.ownsRow B E size (.slice (some ⟨g, 0, none⟩) n c) n xs) (ho : o + m ≤ n * size) : w.there g o m := by
  rcases h.2 with ⟨h1, _⟩ | ⟨g', cap, cur, hv, _, hh, hn, _, hs, _⟩
  · cases h1
  · have hg : g' = g := by
      injection hv with hv
      injection hv with hv
      injection hv with hv
      exact hv.symm
    subst hg
    have hle : n * size ≤ cur.size := by rw [hs]; exact Nat.mul_le_mul_right _ hn
    have hk : Blk w g' E cur := hh
    intro j hj
    have ht := hk.there cur.size (Nat.le_refl _) (o + j) (by omega)
    rw [Nat.zero_add] at ht
    exact ht
theorem OwnL.putLeg {g n c k : Nat} {ls : List P.Leg} {l : P.Leg} (h : OwnL w B (.slice (some ⟨g, 0, none⟩) n c) ls) (hn : ls.length = n) (hk : k < n) : OwnL (w.setCells g (k * 6) l.cells) B (.slice (some ⟨g, 0, none⟩) n c) (ls.set k l) := by
  subst hn
  have key : ∀ {w : World} {ls' : List P.Leg} {a b : P.Leg} {j : Nat} {u : Value}, OwnL w B (.slice (some ⟨g, 0, none⟩) ls.length c) (ls'.set k a) → ls'.length = ls.length → b.cells = a.cells.set j u → j < 6 → OwnL (w.setCell ⟨g, k * 6 + j, none⟩ u) B (.slice (some ⟨g, 0, none⟩) ls.length c) (ls'.set k b) := fun h hl hc hj => by
    have h1 := h.put (k := k) (l := _) (l' := _) (j := _) (u := _) (by rw [List.length_set]; exact hl) (List.getElem?_set_self (by omega)) hc hj
    rw [List.set_set] at h1
    exact h1
  have h0 : OwnL w B (.slice (some ⟨g, 0, none⟩) ls.length c) (ls.set k (ls[k]'hk)) := by rw [List.set_getElem_self hk]; exact h
  have h1 := key (b := { ls[k]'hk with name := l.name }) (j := 0) (u := .string l.name) h0 rfl rfl (by omega)
  have h2 := key (b := { ls[k]'hk with name := l.name, status := l.status }) (j := 1) (u := .int .i64 l.status) h1 rfl rfl (by omega)
  have h3 := key (b := { ls[k]'hk with name := l.name, status := l.status, tries := l.tries }) (j := 2) (u := .int .i64 l.tries) h2 rfl rfl (by omega)
  have h4 := key (b := { ls[k]'hk with name := l.name, status := l.status, tries := l.tries, due := l.due }) (j := 3) (u := .int .i64 l.due) h3 rfl rfl (by omega)
  have h5 := key (b := { ls[k]'hk with name := l.name, status := l.status, tries := l.tries, due := l.due, payload := l.payload }) (j := 4) (u := .string l.payload) h4 rfl rfl (by omega)
  exact key (b := l) (j := 5) (u := .string l.reply) h5 rfl rfl (by omega)
end
def marksOf (l : Nat → List P.Leg) (k : Nat) : Nat → List P.Leg := fun i => if i < k then P.marksL i 0 (l i).length else l i
theorem marksOf_len (l : Nat → List P.Leg) (k i : Nat) : (marksOf l k i).length = (l i).length := by unfold marksOf; split <;> simp [P.marksL_len]
theorem marksOf_zero (l : Nat → List P.Leg) : marksOf l 0 = l := by funext i; simp [marksOf]
theorem marksOf_at (l : Nat → List P.Leg) (k : Nat) : marksOf l k k = l k := by simp [marksOf]
theorem marksOf_next (l : Nat → List P.Leg) (k : Nat) : marksOf l (k + 1) = fun i => if i = k then P.marksL k 0 (l k).length else marksOf l k i := by
  funext i
  unfold marksOf
  by_cases h : i = k
  · subst h; simp
  · by_cases h2 : i < k
    · simp [h, h2, show i < k + 1 by omega]
    · simp [h, h2, show ¬ i < k + 1 by omega]
/-- One of the lists is another one now. -/
theorem Kept.turn {α : Type} {f : α → List Value} {size : Nat} {E T1 : TypeId} {w w' : World} {B N : Nat} {V : Value} {v : Nat → Value} {l : Nat → List α} (h : Kept f size E T1 w B N V v l) {k : Nat} (hk : k < N) (hT : E ≠ T1) {lx : List α} (hg : w.grownBy w' (v k).ownBlock)
    (hx : w'.ownsRow B E size (v k) lx.length (lx.flatMap f)) (hl : lx.length ≤ 1000) : Kept f size E T1 w' B N V v (fun i => if i = k then lx else l i) := by
  refine ⟨own_ch h.outer (Ch.of_grown hg (List.mem_singleton.2 rfl)) (fun g hgV hm => ?_), fun i hi => ?_, h.apart, fun i hi => ?_⟩
  · have e := List.mem_singleton.1 hm
    obtain ⟨c1, b1⟩ := own_type h.outer hgV
    obtain ⟨c2, b2⟩ := own_type (h.own k hk) e.symm
    exact Blk.ne_ b2 b1 hT rfl
  · by_cases hik : i = k
    · subst hik; simp only [if_true]; exact hx
    · simp only [hik, if_false]
      exact own_ch (h.own i hi) (Ch.of_grown hg (List.mem_singleton.2 rfl)) (fun g hgi hm => by
        have e := List.mem_singleton.1 hm
        exact h.apart i k g hi hk hik hgi e.symm)
  · by_cases hik : i = k
    · simp only [hik, if_true]; exact hl
    · simp only [hik, if_false]; exact h.few i hi
end Go.Proofs.YtemjipongehjlaaGreat
/- Words for the book's putTexts. -/
namespace Go.Proofs.YtemjipongehjlaaGreat
set_option linter.unusedVariables false
open Go.RowKit Go.BigFrame
theorem OwnT.put {w : World} {B g n c k : Nat} {ls : List ByteArray} {s : ByteArray} (h : OwnT w B (.slice (some ⟨g, 0, none⟩) n c) ls) (hn : ls.length = n) : OwnT (w.setCell ⟨g, k, none⟩ (.string s)) B (.slice (some ⟨g, 0, none⟩) n c) (ls.set k s) := by
  subst hn
  have := (World.ownsRow.stored h k (.string s)).1
  unfold OwnT
  rw [List.length_set, strCells_map, List.map_set]
  rwa [strCells_map] at this
def marksOfT (l : Nat → List ByteArray) (k : Nat) : Nat → List ByteArray := fun i => if i < k then P.marksS i 0 (l i).length else l i
theorem marksOfT_len (l : Nat → List ByteArray) (k i : Nat) : (marksOfT l k i).length = (l i).length := by unfold marksOfT; split <;> simp [P.marksS_len]
theorem marksOfT_zero (l : Nat → List ByteArray) : marksOfT l 0 = l := by funext i; simp [marksOfT]
theorem marksOfT_at (l : Nat → List ByteArray) (k : Nat) : marksOfT l k k = l k := by simp [marksOfT]
theorem marksOfT_next (l : Nat → List ByteArray) (k : Nat) : marksOfT l (k + 1) = fun i => if i = k then P.marksS k 0 (l k).length else marksOfT l k i := by
  funext i
  unfold marksOfT
  by_cases h : i = k
  · subst h; simp
  · by_cases h2 : i < k
    · simp [h, h2, show i < k + 1 by omega]
    · simp [h, h2, show ¬ i < k + 1 by omega]
end Go.Proofs.YtemjipongehjlaaGreat
/- What putLegs leaves: each list has its marks. -/
namespace Go.Proofs.YtemjipongehjlaaGreat
set_option linter.unusedVariables false
open Go.RowKit Go.BigFrame
def GivesPutL (w : World) (B N : Nat) (lg : Value) (v : Nat → Value) (l : Nat → List P.Leg) (e : Ending) (w' : World) : Prop :=
  e = .returned (.tuple #[]) ∧ KeptL w' B N lg v (marksOf l N) ∧ Frame w w' B [69]
set_option maxRecDepth 100000 in
set_option maxHeartbeats 4000000 in
theorem putLegs_any (gb B N : Nat) (tx tw lg lw : Value) (v : Nat → Value) (l : Nat → List P.Leg) (w : World)
    (hb : Blk w gb 51 (bookCells tx tw lg lw)) (hK : KeptL w B N lg v l) (hN : N ≤ 250) (hB : B ≤ w.heap.size) :
    Calls Tryz.prog 80 #[.pointer (some ⟨gb, 0, none⟩)] w (GivesPutL w B N lg v l) := by
  have HB := Lib.hid hb
  have HK := Lib.hid hK
  obtain ⟨Ag, cg, rfl, _⟩ := own_slice hK.outer
  clear hb hK
  go_enter Tryz.func80, Tryz.ntmps80
  go_wp2_with fail
  go_loopw [2] (fun x wr => ∃ k : Nat, k ≤ N ∧ x = .int .i64 k ∧ KeptL wr B N (.slice Ag N cg) v (marksOf l k) ∧ Frame w wr B [69]) (fun x _ => N - (intOf x).toNat)
  case atStart => exact ⟨0, by omega, rfl, by rw [marksOf_zero]; exact HK.out, Frame.refl _ _ _⟩
  case round =>
    obtain ⟨k, hk, rfl, hkr, hfr⟩ := hrel
    have KR := Lib.hid hkr
    have FR := Lib.hid hfr
    have Br := Lib.hid (HB.out.frame hfr (by decide))
    have zr := hfr.size
    have c20 : wr.cell? ⟨gb, 20, none⟩ = some (.slice Ag N cg) := (Br.out.cell 20).trans rfl
    clear hkr hfr
    by_cases hlt : k < N
    · have t1 : decide ((k : Int) < (N : Int)) = true := by simp; omega
      obtain ⟨wo, rfl⟩ : ∃ wo : World, wo = wr := ⟨_, rfl⟩
      obtain ⟨g1, cap1, e1, hg1, ce1⟩ := KR.out.at_ hlt
      cases e1
      have OK := Lib.hid (KR.out.own k hlt)
      rw [marksOf_at] at OK
      obtain ⟨A1, c1, ev1, _⟩ := own_slice OK.out
      have EV := Lib.hid ev1
      have FW := Lib.hid (HK.out.few k hlt)
      have OV := Lib.hid (show OwnL wo B (.slice A1 (l k).length c1) (l k) from ev1 ▸ OK.out)
      rw [ev1] at ce1
      obtain ⟨ol, hol⟩ : ∃ ol, ol = l k := ⟨_, rfl⟩
      have HOL := Lib.hid hol
      rw [← hol] at OV OK ce1 FW EV
      have hfw := FW.out
      have MK := Lib.hid (markLegs_any k 0 ol.length wo (by omega) (by omega) (by omega))
      clear ev1 hol
      go_wp2_with fail
      refine MK.out.mono ?_
      rintro x w2 ⟨vm, rfl, hom, hbm⟩
      obtain ⟨A2, c2, rfl, _⟩ := own_slice hom
      rw [P.marksL_len] at hom
      have S2 := Lib.hid (show Stays wo w2 from hbm)
      have M2 := Lib.hid hom
      have V2 := Lib.hid (OwnL.stays OV.out hbm)
      have K2 := Lib.hid (Kept.stays KR.out hbm)
      have B2 := Lib.hid (Br.out.stays hbm)
      have z2 := hbm.size
      have hg12 : g1 < w2.heap.size := Nat.lt_of_lt_of_le hg1 z2
      have ce2 : w2.cell? ⟨g1, k, none⟩ = some (.slice A1 ol.length c1) := (hbm.cell (p := ⟨g1, k, none⟩) hg1).trans ce1
      clear hom hbm ce1 c20
      rw [P.marksL_len]
      have ML := Lib.hid (P.marksL_len k 0 ol.length)
      go_wp2_with fail
      go_loopw [4] (fun x wq => ∃ j : Nat, j ≤ ol.length ∧ x = .int .i64 j ∧ OwnL wq B (.slice A1 ol.length c1) (mixed (P.marksL k 0 ol.length) ol j) ∧ w2.grownBy wq (Value.slice A1 ol.length c1).ownBlock) (fun x _ => ol.length - (intOf x).toNat)
      case atStart => exact ⟨0, by omega, rfl, by rw [mixed_zero]; exact V2.out, (Stays.refl _).grown _⟩
      case round =>
        obtain ⟨j, hj, rfl, hmx, hgr⟩ := hrel
        have MX := Lib.hid hmx
        have GR := Lib.hid hgr
        clear hmx hgr
        by_cases hjl : j < ol.length
        · have t2 : decide ((j : Int) < (ol.length : Int)) = true := by simp; omega
          obtain ⟨g, capg, e3, hgB, hgl⟩ := World.ownsRow.form V2.out (by omega)
          cases e3
          obtain ⟨g3, capm, e4, hg3, hgm⟩ := World.ownsRow.form M2.out (by rw [ML.out]; omega)
          rw [ML.out] at e4
          cases e4
          have hgo : g < wo.heap.size := (World.ownsRow.lt OV.out g rfl).2
          have GR' : w2.grownBy wr (some g) := GR.out
          have Br2 := Lib.hid (B2.out.grown GR' (fun e => own_ne V2.out B2.out (by decide) e.symm))
          obtain ⟨cs1, b1⟩ := own_type K2.out.outer (g := g1) rfl
          have b1r := b1.grown GR' (fun e => own_ne V2.out b1 (by decide) e.symm)
          have ce3 : wr.cell? ⟨g1, k, none⟩ = some (.slice (some ⟨g, 0, none⟩) ol.length c1) := by rw [b1r.cell, ← b1.cell]; exact ce2
          have hg13 : g1 < wr.heap.size := b1r.lt
          have M3 := Lib.hid (show OwnL wr wo.heap.size (.slice (some ⟨g3, 0, none⟩) ol.length c2) (P.marksL k 0 ol.length) from own_grown (b := g) M2.out GR' (by simp [Value.ownBlock]; omega))
          obtain ⟨ml, hml⟩ : ∃ ml, (P.marksL k 0 ol.length)[j]? = some ml := ⟨_, P.marksL_get hjl⟩
          have HMJ := Lib.hid hml
          clear hml
          have LI := Lib.hid (M3.out.legIn HMJ.out)
          have zr3 := M3.out
          have hg3l : g3 < wr.heap.size := (World.ownsRow.lt M3.out g3 rfl).2
          have cr20 : wr.cell? ⟨gb, 20, none⟩ = some (.slice (some ⟨g1, 0, none⟩) N cg) := (Br2.out.cell 20).trans rfl
          have hgbl := Br2.out.lt
          clear b1 b1r zr3 GR'
          go_wp2_with fail
          refine wp_region_free 13 [] Stays (fun _ => none) (by kernel_rfl) (by kernel_rfl) Stays.refl (by simp) (Stays.draw _) Stays.trans (fun j φ v x y hB => by cases hB) ?_
          apply wpFree_pure rfl rfl
          · intro vs wx hk K hK
            go_simp
            exact hK _ (Stays.refl _)
          intro KK hKK
          go_simp
          refine hKK _ ?_
          clear hKK KK
          apply wpFree_pure rfl rfl
          · intro vs wx hk K hK
            go_simp
            exact hK _ (Stays.refl _)
          intro KK hKK
          go_simp
          refine hKK _ ?_
          clear hKK KK
          apply wpFree_pure rfl rfl
          · intro vs wx hk K hK
            go_simp
            exact hK _ (Stays.refl _)
          intro KK hKK
          go_simp
          refine hKK _ ?_
          clear hKK KK
          apply wpFree_pure rfl rfl
          · intro vs wx hk K hK
            have c1 := (hk.1.cell (p := ⟨gb, 20, none⟩) hgbl).trans cr20
            go_simp
            exact hK _ (Stays.refl _)
          intro KK hKK
          go_simp
          refine hKK _ ?_
          clear hKK KK
          apply wpFree_pure rfl rfl
          · intro vs wx hk K hK
            go_simp
            exact hK _ (Stays.refl _)
          intro KK hKK
          go_simp
          refine hKK _ ?_
          clear hKK KK
          apply wpFree_pure rfl rfl
          · intro vs wx hk K hK
            go_simp
            exact hK _ (Stays.refl _)
          intro KK hKK
          go_simp
          refine hKK _ ?_
          clear hKK KK
          apply wpFree_pure rfl rfl
          · intro vs wx hk K hK
            have c1 := (hk.1.cell (p := ⟨g1, k, none⟩) hg13).trans ce3
            go_simp
            exact hK _ (Stays.refl _)
          intro KK hKK
          go_simp
          refine hKK _ ?_
          clear hKK KK
          apply wpFree_pure rfl rfl
          · intro vs wx hk K hK
            go_simp
            exact hK _ (Stays.refl _)
          intro KK hKK
          go_simp
          refine hKK _ ?_
          clear hKK KK
          apply wpFree_pure rfl rfl
          · intro vs wx hk K hK
            go_simp
            exact hK _ (Stays.refl _)
          intro KK hKK
          go_simp
          refine hKK _ ?_
          clear hKK KK
          apply wpFree_pure rfl rfl
          · intro vs wx hk K hK
            go_simp
            exact hK _ (Stays.refl _)
          intro KK hKK
          go_simp
          refine hKK _ ?_
          clear hKK KK
          apply wpFree_pure rfl rfl
          · intro vs wx hk K hK
            go_simp
            exact hK _ (Stays.refl _)
          intro KK hKK
          go_simp
          refine hKK _ ?_
          clear hKK KK
          apply wpFree_pure rfl rfl
          · intro vs wx hk K hK
            obtain ⟨e0, e1, e2, e3, e4, e5⟩ := LI.out.keep hk.1 hg3l
            go_simp
            exact hK _ (Stays.refl _)
          intro KK hKK
          go_simp
          refine hKK _ ?_
          clear hKK KK
          apply wpFree_pure rfl rfl
          · intro vs wx hk K hK
            go_simp
            exact hK _ (Stays.refl _)
          intro KK hKK
          go_simp
          refine hKK _ ?_
          clear hKK KK
          refine wpFree_nil ?_
          intro vs w4 hs4 _
          have G4 := Lib.hid (GR.out.trans (hs4.grown _))
          have MX4 := Lib.hid (show OwnL w4 B (.slice (some ⟨g, 0, none⟩) ol.length c1) (mixed (P.marksL k 0 ol.length) ol j) from OwnL.stays MX.out hs4)
          have LM := Lib.hid (mixed_len (a := P.marksL k 0 ol.length) (b := ol) ML.out hj)
          have TH := Lib.hid (show ∀ q, q = 6 → w4.there g (j * 6) q from by
            rintro _ rfl
            have h := MX4.out
            unfold OwnL at h
            rw [LM.out] at h
            exact own_there h (by omega))
          have SM := Lib.hid (mixed_set (a := P.marksL k 0 ol.length) (b := ol) ML.out hjl HMJ.out)
          clear hs4 ce3 cr20
          intro KK hKK
          simp only [List.drop_succ_cons, List.drop_zero]
          refine wpList_store_mid rfl 69 (.tmp 42) (.tmp 41) rfl g (j * 6) #[.string ml.name, .int .i64 ml.status, .int .i64 ml.tries, .int .i64 ml.due, .string ml.payload, .string ml.reply] (by rfl) (by rfl) (TH.out _ (by rfl)) (by kernel_rfl) (by simp [Value.oneCell']) ?_
          have hp := OwnL.putLeg (l := ml) MX4.out LM.out hjl
          rw [SM.out] at hp
          have G5 := Lib.hid (G4.out.trans (grown_setCells g [.string ml.name, .int .i64 ml.status, .int .i64 ml.tries, .int .i64 ml.due, .string ml.payload, .string ml.reply] (j * 6) w4))
          have P5 := Lib.hid hp
          clear hp
          go_wp2
          go_roundw
          case rel => exact ⟨j + 1, by omega, by go_num, P5.out, G5.out⟩
          case measure => simp [intOf]; omega
        · have t2 : decide ((j : Int) < (ol.length : Int)) = false := by simp; omega
          have hje : j = ol.length := by omega
          have PM := Lib.hid (show OwnL wr B (.slice A1 ol.length c1) (P.marksL k 0 ol.length) from by
            have := MX.out
            rw [hje, mixed_all ML.out] at this
            exact this)
          have FN := Lib.hid (FR.out.trans ((Frame.of_stays S2.out _ _).trans (Frame.of_own GR.out (own_less V2.out (Nat.le_refl _)) (by simp))))
          have KN : KeptL wr B N (.slice (some ⟨g1, 0, none⟩) N cg) v (marksOf l (k + 1)) := by
            rw [marksOf_next]
            refine K2.out.turn hlt (by decide) (by rw [EV.out]; exact GR.out) ?_ (by rw [P.marksL_len, ← HOL.out]; exact FW.out)
            rw [EV.out, ← HOL.out]
            exact PM.out
          have KN := Lib.hid KN
          clear hje
          go_wp2
          go_roundw
          case rel => exact ⟨k + 1, by omega, by go_num, KN.out, FN.out⟩
          case measure => simp [intOf]; omega
    · have t1 : decide ((k : Int) < (N : Int)) = false := by simp; omega
      have hkn : k = N := by omega
      have KN := Lib.hid (show KeptL wr B N (.slice Ag N cg) v (marksOf l N) from hkn ▸ KR.out)
      clear hkn
      go_wp2
      go_end0
      exact ⟨rfl, KN.out, FR.out⟩
end Go.Proofs.YtemjipongehjlaaGreat
