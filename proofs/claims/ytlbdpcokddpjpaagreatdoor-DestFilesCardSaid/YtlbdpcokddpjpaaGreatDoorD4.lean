/- Parts, joined. -/
import Derived.Test.YtlbdpcokddpjpaaGreatDoorD3
/- What disk.Sync, Remove, Append, Rename return. Printed by gen_dk8.py. -/
namespace Go.Proofs.YtlbdpcokddpjpaaGreatDoor
set_option linter.unusedVariables false
open Go Go.RowKit Go.BigFrame Go.MapKept Go.ChangeMaps
set_option maxRecDepth 100000 in
set_option maxHeartbeats 1000000 in
theorem remove_any (hN : NameOk) (w : World) (g m : Nat) (d : Dk.Disk) (h : DiskAt w g m d) (hf : Dk.Fine d) (x : ByteArray) (hx : x.size ≤ 9223372036854775807) :
    Calls Tryz.prog 27 #[.pointer (some ⟨g, 0, none⟩), .string x] w fun e w' => e = .returned (.int .i64 (Dk.remove d x).1) ∧ DiskAt w' g m (Dk.remove d x).2 ∧ Chg g m w w' := by
  have hz1 : (w.alloc (.cells #[.pointer (some ⟨g, 0, none⟩)] 24)).heap.size = w.heap.size + 1 := by simp
  have hz2 : ((w.alloc (.cells #[.pointer (some ⟨g, 0, none⟩)] 24)).alloc (.cells #[.string x] 9)).heap.size = w.heap.size + 2 := by simp
  have k0 := ((Blk.new w 24 #[.pointer (some ⟨g, 0, none⟩)]).alloc (.cells #[.string x] 9)).alloc (.cells #[.string x] 9)
  have k1 := (Blk.new (w.alloc (.cells #[.pointer (some ⟨g, 0, none⟩)] 24)) 9 #[.string x]).alloc (.cells #[.string x] 9)
  rw [hz1] at k1
  have kn := Blk.new ((w.alloc (.cells #[.pointer (some ⟨g, 0, none⟩)] 24)).alloc (.cells #[.string x] 9)) 9 #[.string x]
  rw [hz2] at kn
  have hb : Below w.heap.size w (((w.alloc (.cells #[.pointer (some ⟨g, 0, none⟩)] 24)).alloc (.cells #[.string x] 9)).alloc (.cells #[.string x] 9)) := (((Below.refl _ w).alloc (Nat.le_refl _) _).alloc (by simp) _).alloc (by simp; omega) _
  have KA := Lib.hid (asked_any hN _ g m d (h.below hb) (some ⟨w.heap.size + 2, 0, none⟩) 1 1 [x] (StrsAt.blk kn) (by unfold maxLen; omega) (fun s hs => by simp at hs; rw [hs]; exact hx))
  have K0 := Lib.hid k0
  have K1 := Lib.hid k1
  have HB := Lib.hid hb
  have HD := Lib.hid (h.below hb)
  have HFI := Lib.hid hf
  clear k0 k1 kn hb h hf
  go_enter Tryz.func27, Tryz.ntmps27
  go_wp2_with fail
  refine KA.out.mono ?_
  rintro y9 w4 ⟨rfl, hb4⟩
  have B4 := Lib.hid (bt'' HB.out hb4)
  have X0 := Lib.hid (K0.out.below hb4 K0.out.lt)
  have X1 := Lib.hid (K1.out.below hb4 K1.out.lt)
  have HD4 := Lib.hid (HD.out.below hb4)
  clear hb4 KA
  have hno : Dk.asked d.on [x] ≠ 0 → Dk.remove d x = (Dk.asked d.on [x], d) := fun hne => by unfold Dk.remove; rw [if_pos hne]
  rcases asked_cases d.on [x] with h0 | h0 | h0
  · have hok := asked_fine h0
    rw [h0]
    clear hno
    go_wp2_with fail
    refine wp_region_free 10 [8] Stays (fun | 9 => some fun v w' => ∃ j, v = .pointer (some ⟨j, 0, none⟩) ∧ w4.heap.size ≤ j ∧ Blk w' j 76 #[.string ⟨#[]⟩, .int .i64 0] | _ => none) (by kernel_rfl) (by kernel_rfl) Stays.refl (by simp) (Stays.draw _) Stays.trans ?_ ?_
    · intro j φ v x y hB hp hxy
      split at hB <;> cases hB
      obtain ⟨j, hj, h1, hb⟩ := hp
      exact ⟨j, hj, h1, hb.stays hxy⟩
    · apply wpFree_pure rfl rfl
      · intro vs wx hk K hK
        have c0 := fun i => (X0.out.stays hk.1).cell i
        go_simp
        exact hK _ (Stays.refl _)
      intro KK hKK
      go_simp
      refine hKK _ ?_
      clear hKK KK
      apply wpFree_pure rfl rfl
      · intro vs wx hk K hK
        go_simp
        exact hK _ (Stays.refl _)
      intro KK hKK
      go_simp
      refine hKK _ ?_
      clear hKK KK
      apply wpFree_pure rfl rfl
      · intro vs wx hk K hK
        go_simp
        exact hK _ (Stays.refl _)
      intro KK hKK
      go_simp
      refine hKK _ ?_
      clear hKK KK
      apply wpFree_pure rfl rfl
      · intro vs wx hk K hK
        obtain ⟨⟨fp, acts, hbk, _⟩, _⟩ := HD4.out.stays hk.1
        have c0 := fun i => hbk.cell i
        go_simp
        exact hK _ (Stays.refl _)
      intro KK hKK
      go_simp
      refine hKK _ ?_
      clear hKK KK
      apply wpFree_pure rfl rfl
      · intro vs wx hk K hK
        have c0 := fun i => (X1.out.stays hk.1).cell i
        go_simp
        exact hK _ (Stays.refl _)
      intro KK hKK
      go_simp
      refine hKK _ ?_
      clear hKK KK
      apply wpFree_pure rfl rfl
      · intro vs wx hk K hK
        have hlk := look_file (HD4.out.stays hk.1).map x
        go_simp
        exact hK _ (Stays.refl _)
      intro KK hKK
      go_simp
      refine hKK _ ?_
      clear hKK KK
      apply wpFree_pure rfl rfl
      · intro vs wx hk K hK
        go_simp
        exact hK _ (Stays.refl _)
      intro KK hKK
      go_simp
      refine hKK _ ?_
      clear hKK KK
      apply wpFree_pure rfl rfl
      · intro vs wx hk K hK
        go_simp
        exact hK _ (Stays.refl _)
      intro KK hKK
      go_simp
      refine hKK _ ?_
      clear hKK KK
      apply wpFree_late rfl rfl
      · intro vs wx K hK
        go_simp
        exact hK
      intro KK hKK
      go_simp
      refine hKK _ ?_
      clear hKK KK
      refine wpFree_fact rfl ?_ ?_
      · intro vs wx hk K hK
        go_simp
        exact hK _ _ (Stays.alloc _ _) ⟨_, rfl, hk.1.size, Blk.new _ _ _⟩
      intro KK hKK
      go_simp
      refine hKK _ ?_
      clear hKK KK
      refine wpFree_nil ?_
      intro vs w5 hs5 hf5
      obtain ⟨j, hj, hjge, hbj⟩ := hf5 9 _ (by omega) rfl
      intro KK hKK
      rw [hj]
      simp only [List.drop_succ_cons, List.drop_zero]
      have HD5 := Lib.hid (HD4.out.stays hs5)
      have Y0 := Lib.hid (X0.out.stays hs5)
      have Y1 := Lib.hid (X1.out.stays hs5)
      have C5 := Lib.hid (show Chg g m w w5 from (Chg.of_below B4.out).stays hs5)
      have hlj : w.heap.size ≤ j := Nat.le_trans B4.out.size hjge
      refine wpList_store_blk rfl 76 (.tmp 6) (.tmp 22) rfl j rfl rfl hbj rfl (by kernel_rfl) (by simp [Value.oneCell']) ?_
      intro w6 hb6 hg6
      have hj0 : j ≠ w.heap.size := blk_ne hbj Y0.out (by decide)
      have Z0 := Lib.hid (Y0.out.grown hg6 (fun e => hj0 (by injection e with e; exact e.symm)))
      have hj1 : j ≠ w.heap.size + 1 := blk_ne hbj Y1.out (by decide)
      have Z1 := Lib.hid (Y1.out.grown hg6 (fun e => hj1 (by injection e with e; exact e.symm)))
      have C6 := Lib.hid (C5.out.grown hg6 (fun r hr => by cases hr; exact .inr (.inr hlj)))
      have HD6 := Lib.hid (HD5.out.aside hg6 hbj (by decide) (by decide))
      obtain ⟨⟨fp, acts, hb6', _⟩, hm6⟩ := id HD6.out
      have c6 := fun i => hb6'.cell i
      have HB6 := Lib.hid hb6'
      have HM6 := Lib.hid hm6
      have ZJ := Lib.hid hb6
      clear hs5 hf5 hbj hb6 hg6 HD5 Y0 Y1 C5 hb6' hm6
      have z0 := fun i => Z0.out.cell i
      have z1 := fun i => Z1.out.cell i
      cases hg : Dk.get d.files x with
      | none =>
        have HA := Lib.hid (show Dk.remove d x = (22, d) from by unfold Dk.remove; rw [if_neg (by rw [h0]; simp), hg])
        clear h0
        go_wp2
        go_ret
        rw [HA.out]
        exact ⟨rfl, HD6.out, C6.out⟩
      | some f =>
        have hfs := HFI.out.get hg
        have HJ := Lib.hid (show Blk w6 j 76 #[.string f.data, .int .i64 (f.synced : Int)] from by have := ZJ.out; rw [hg] at this; exact this)
        have HA := Lib.hid (show Dk.remove d x = Dk.act d (fun d => { d with files := Dk.del d.files x }) from by unfold Dk.remove; rw [if_neg (by rw [h0]; simp), hg])
        clear h0
        have KA := Lib.hid (act_any w6 g m j d HD6.out HFI.out 74 #[.pointer (some ⟨w.heap.size, 0, none⟩), .pointer (some ⟨w.heap.size + 1, 0, none⟩)] (fun d => { d with files := Dk.del d.files x }) (fun args w => rfl) (fun W d' hd hc hfl hro _ _ => (remove1_any W g m d' hd x _ _ (Z0.out.chg hc (blk_ne Z0.out HB6.out (by decide)) (blk_ne_map Z0.out HM6.out)) (Z1.out.chg hc (blk_ne Z1.out HB6.out (by decide)) (blk_ne_map Z1.out HM6.out))).mono fun e W' ⟨a, b, c⟩ => ⟨a, b, Chj.of c⟩))
        go_wp2_with fail
        refine KA.out.mono ?_
        rintro y9 w7 ⟨rfl, hd7, hc7⟩
        have HD7 := Lib.hid hd7
        have HC7 := Lib.hid (C6.out.more hc7 hlj)
        clear hd7 hc7
        go_wp2
        go_ret
        rw [HA.out]
        exact ⟨rfl, HD7.out, HC7.out⟩
  · have HC := Lib.hid (hno (by rw [h0]; simp))
    rw [h0] at HC ⊢
    clear hno h0
    go_wp2
    go_ret
    rw [HC.out]
    exact ⟨rfl, HD4.out, Chg.of_below B4.out⟩
  · have HC := Lib.hid (hno (by rw [h0]; simp))
    rw [h0] at HC ⊢
    clear hno h0
    go_wp2
    go_ret
    rw [HC.out]
    exact ⟨rfl, HD4.out, Chg.of_below B4.out⟩
set_option maxRecDepth 100000 in
set_option maxHeartbeats 1000000 in
theorem sync_any (hN : NameOk) (w : World) (g m : Nat) (d : Dk.Disk) (h : DiskAt w g m d) (hf : Dk.Fine d) (x : ByteArray) (hx : x.size ≤ 9223372036854775807) :
    Calls Tryz.prog 33 #[.pointer (some ⟨g, 0, none⟩), .string x] w fun e w' => e = .returned (.int .i64 (Dk.sync d x).1) ∧ DiskAt w' g m (Dk.sync d x).2 ∧ Chg g m w w' := by
  have hz1 : (w.alloc (.cells #[.pointer (some ⟨g, 0, none⟩)] 24)).heap.size = w.heap.size + 1 := by simp
  have hz2 : ((w.alloc (.cells #[.pointer (some ⟨g, 0, none⟩)] 24)).alloc (.cells #[.string x] 9)).heap.size = w.heap.size + 2 := by simp
  have k0 := ((Blk.new w 24 #[.pointer (some ⟨g, 0, none⟩)]).alloc (.cells #[.string x] 9)).alloc (.cells #[.string x] 9)
  have k1 := (Blk.new (w.alloc (.cells #[.pointer (some ⟨g, 0, none⟩)] 24)) 9 #[.string x]).alloc (.cells #[.string x] 9)
  rw [hz1] at k1
  have kn := Blk.new ((w.alloc (.cells #[.pointer (some ⟨g, 0, none⟩)] 24)).alloc (.cells #[.string x] 9)) 9 #[.string x]
  rw [hz2] at kn
  have hb : Below w.heap.size w (((w.alloc (.cells #[.pointer (some ⟨g, 0, none⟩)] 24)).alloc (.cells #[.string x] 9)).alloc (.cells #[.string x] 9)) := (((Below.refl _ w).alloc (Nat.le_refl _) _).alloc (by simp) _).alloc (by simp; omega) _
  have KA := Lib.hid (asked_any hN _ g m d (h.below hb) (some ⟨w.heap.size + 2, 0, none⟩) 1 1 [x] (StrsAt.blk kn) (by unfold maxLen; omega) (fun s hs => by simp at hs; rw [hs]; exact hx))
  have K0 := Lib.hid k0
  have K1 := Lib.hid k1
  have HB := Lib.hid hb
  have HD := Lib.hid (h.below hb)
  have HFI := Lib.hid hf
  clear k0 k1 kn hb h hf
  go_enter Tryz.func33, Tryz.ntmps33
  go_wp2_with fail
  refine KA.out.mono ?_
  rintro y9 w4 ⟨rfl, hb4⟩
  have B4 := Lib.hid (bt'' HB.out hb4)
  have X0 := Lib.hid (K0.out.below hb4 K0.out.lt)
  have X1 := Lib.hid (K1.out.below hb4 K1.out.lt)
  have HD4 := Lib.hid (HD.out.below hb4)
  clear hb4 KA
  have hno : Dk.asked d.on [x] ≠ 0 → Dk.sync d x = (Dk.asked d.on [x], d) := fun hne => by unfold Dk.sync; rw [if_pos hne]
  rcases asked_cases d.on [x] with h0 | h0 | h0
  · have hok := asked_fine h0
    rw [h0]
    clear hno
    go_wp2_with fail
    refine wp_region_free 10 [8] Stays (fun | 9 => some fun v w' => ∃ j, v = .pointer (some ⟨j, 0, none⟩) ∧ w4.heap.size ≤ j ∧ Blk w' j 76 #[.string ⟨#[]⟩, .int .i64 0] | _ => none) (by kernel_rfl) (by kernel_rfl) Stays.refl (by simp) (Stays.draw _) Stays.trans ?_ ?_
    · intro j φ v x y hB hp hxy
      split at hB <;> cases hB
      obtain ⟨j, hj, h1, hb⟩ := hp
      exact ⟨j, hj, h1, hb.stays hxy⟩
    · apply wpFree_pure rfl rfl
      · intro vs wx hk K hK
        have c0 := fun i => (X0.out.stays hk.1).cell i
        go_simp
        exact hK _ (Stays.refl _)
      intro KK hKK
      go_simp
      refine hKK _ ?_
      clear hKK KK
      apply wpFree_pure rfl rfl
      · intro vs wx hk K hK
        go_simp
        exact hK _ (Stays.refl _)
      intro KK hKK
      go_simp
      refine hKK _ ?_
      clear hKK KK
      apply wpFree_pure rfl rfl
      · intro vs wx hk K hK
        go_simp
        exact hK _ (Stays.refl _)
      intro KK hKK
      go_simp
      refine hKK _ ?_
      clear hKK KK
      apply wpFree_pure rfl rfl
      · intro vs wx hk K hK
        obtain ⟨⟨fp, acts, hbk, _⟩, _⟩ := HD4.out.stays hk.1
        have c0 := fun i => hbk.cell i
        go_simp
        exact hK _ (Stays.refl _)
      intro KK hKK
      go_simp
      refine hKK _ ?_
      clear hKK KK
      apply wpFree_pure rfl rfl
      · intro vs wx hk K hK
        have c0 := fun i => (X1.out.stays hk.1).cell i
        go_simp
        exact hK _ (Stays.refl _)
      intro KK hKK
      go_simp
      refine hKK _ ?_
      clear hKK KK
      apply wpFree_pure rfl rfl
      · intro vs wx hk K hK
        have hlk := look_file (HD4.out.stays hk.1).map x
        go_simp
        exact hK _ (Stays.refl _)
      intro KK hKK
      go_simp
      refine hKK _ ?_
      clear hKK KK
      apply wpFree_pure rfl rfl
      · intro vs wx hk K hK
        go_simp
        exact hK _ (Stays.refl _)
      intro KK hKK
      go_simp
      refine hKK _ ?_
      clear hKK KK
      apply wpFree_pure rfl rfl
      · intro vs wx hk K hK
        go_simp
        exact hK _ (Stays.refl _)
      intro KK hKK
      go_simp
      refine hKK _ ?_
      clear hKK KK
      apply wpFree_late rfl rfl
      · intro vs wx K hK
        go_simp
        exact hK
      intro KK hKK
      go_simp
      refine hKK _ ?_
      clear hKK KK
      refine wpFree_fact rfl ?_ ?_
      · intro vs wx hk K hK
        go_simp
        exact hK _ _ (Stays.alloc _ _) ⟨_, rfl, hk.1.size, Blk.new _ _ _⟩
      intro KK hKK
      go_simp
      refine hKK _ ?_
      clear hKK KK
      refine wpFree_nil ?_
      intro vs w5 hs5 hf5
      obtain ⟨j, hj, hjge, hbj⟩ := hf5 9 _ (by omega) rfl
      intro KK hKK
      rw [hj]
      simp only [List.drop_succ_cons, List.drop_zero]
      have HD5 := Lib.hid (HD4.out.stays hs5)
      have Y0 := Lib.hid (X0.out.stays hs5)
      have Y1 := Lib.hid (X1.out.stays hs5)
      have C5 := Lib.hid (show Chg g m w w5 from (Chg.of_below B4.out).stays hs5)
      have hlj : w.heap.size ≤ j := Nat.le_trans B4.out.size hjge
      refine wpList_store_blk rfl 76 (.tmp 6) (.tmp 22) rfl j rfl rfl hbj rfl (by kernel_rfl) (by simp [Value.oneCell']) ?_
      intro w6 hb6 hg6
      have hj0 : j ≠ w.heap.size := blk_ne hbj Y0.out (by decide)
      have Z0 := Lib.hid (Y0.out.grown hg6 (fun e => hj0 (by injection e with e; exact e.symm)))
      have hj1 : j ≠ w.heap.size + 1 := blk_ne hbj Y1.out (by decide)
      have Z1 := Lib.hid (Y1.out.grown hg6 (fun e => hj1 (by injection e with e; exact e.symm)))
      have C6 := Lib.hid (C5.out.grown hg6 (fun r hr => by cases hr; exact .inr (.inr hlj)))
      have HD6 := Lib.hid (HD5.out.aside hg6 hbj (by decide) (by decide))
      obtain ⟨⟨fp, acts, hb6', _⟩, hm6⟩ := id HD6.out
      have c6 := fun i => hb6'.cell i
      have HB6 := Lib.hid hb6'
      have HM6 := Lib.hid hm6
      have ZJ := Lib.hid hb6
      clear hs5 hf5 hbj hb6 hg6 HD5 Y0 Y1 C5 hb6' hm6
      have z0 := fun i => Z0.out.cell i
      have z1 := fun i => Z1.out.cell i
      cases hg : Dk.get d.files x with
      | none =>
        have HA := Lib.hid (show Dk.sync d x = (22, d) from by unfold Dk.sync; rw [if_neg (by rw [h0]; simp), hg])
        clear h0
        go_wp2
        go_ret
        rw [HA.out]
        exact ⟨rfl, HD6.out, C6.out⟩
      | some f =>
        have hfs := HFI.out.get hg
        have HJ := Lib.hid (show Blk w6 j 76 #[.string f.data, .int .i64 (f.synced : Int)] from by have := ZJ.out; rw [hg] at this; exact this)
        have HA := Lib.hid (show Dk.sync d x = Dk.act d (fun d => { d with files := Dk.put d.files x { f with synced := f.data.size } }) from by unfold Dk.sync; rw [if_neg (by rw [h0]; simp), hg])
        clear h0
        have KA := Lib.hid (act_any w6 g m j d HD6.out HFI.out 78 #[.pointer (some ⟨j, 0, none⟩), .pointer (some ⟨w.heap.size, 0, none⟩), .pointer (some ⟨w.heap.size + 1, 0, none⟩)] (fun d => { d with files := Dk.put d.files x { f with synced := f.data.size } }) (fun args w => rfl) (fun W d' hd hc hfl hro _ _ => sync1_any W g m d' hd x _ _ (Z0.out.chg hc (blk_ne Z0.out HB6.out (by decide)) (blk_ne_map Z0.out HM6.out)) (Z1.out.chg hc (blk_ne Z1.out HB6.out (by decide)) (blk_ne_map Z1.out HM6.out)) j f (HJ.out.chg hc (blk_ne HJ.out HB6.out (by decide)) (blk_ne_map HJ.out HM6.out)) hfs.2))
        go_wp2_with fail
        refine KA.out.mono ?_
        rintro y9 w7 ⟨rfl, hd7, hc7⟩
        have HD7 := Lib.hid hd7
        have HC7 := Lib.hid (C6.out.more hc7 hlj)
        clear hd7 hc7
        go_wp2
        go_ret
        rw [HA.out]
        exact ⟨rfl, HD7.out, HC7.out⟩
  · have HC := Lib.hid (hno (by rw [h0]; simp))
    rw [h0] at HC ⊢
    clear hno h0
    go_wp2
    go_ret
    rw [HC.out]
    exact ⟨rfl, HD4.out, Chg.of_below B4.out⟩
  · have HC := Lib.hid (hno (by rw [h0]; simp))
    rw [h0] at HC ⊢
    clear hno h0
    go_wp2
    go_ret
    rw [HC.out]
    exact ⟨rfl, HD4.out, Chg.of_below B4.out⟩
set_option maxRecDepth 100000 in
set_option maxHeartbeats 1000000 in
theorem rename_any (hN : NameOk) (w : World) (g m : Nat) (d : Dk.Disk) (h : DiskAt w g m d) (hf : Dk.Fine d) (x : ByteArray) (hx : x.size ≤ 9223372036854775807) (y : ByteArray) (hy : y.size ≤ 9223372036854775807) :
    Calls Tryz.prog 35 #[.pointer (some ⟨g, 0, none⟩), .string x, .string y] w fun e w' => e = .returned (.int .i64 (Dk.rename d x y).1) ∧ DiskAt w' g m (Dk.rename d x y).2 ∧ Chg g m w w' := by
  have hz1 : (w.alloc (.cells #[.pointer (some ⟨g, 0, none⟩)] 24)).heap.size = w.heap.size + 1 := by simp
  have hz2 : ((w.alloc (.cells #[.pointer (some ⟨g, 0, none⟩)] 24)).alloc (.cells #[.string x] 9)).heap.size = w.heap.size + 2 := by simp
  have hz3 : (((w.alloc (.cells #[.pointer (some ⟨g, 0, none⟩)] 24)).alloc (.cells #[.string x] 9)).alloc (.cells #[.string y] 9)).heap.size = w.heap.size + 3 := by simp
  have k0 := (((Blk.new w 24 #[.pointer (some ⟨g, 0, none⟩)]).alloc (.cells #[.string x] 9)).alloc (.cells #[.string y] 9)).alloc (.cells #[.string x, .string y] 9)
  have k1 := ((Blk.new (w.alloc (.cells #[.pointer (some ⟨g, 0, none⟩)] 24)) 9 #[.string x]).alloc (.cells #[.string y] 9)).alloc (.cells #[.string x, .string y] 9)
  rw [hz1] at k1
  have k2 := (Blk.new ((w.alloc (.cells #[.pointer (some ⟨g, 0, none⟩)] 24)).alloc (.cells #[.string x] 9)) 9 #[.string y]).alloc (.cells #[.string x, .string y] 9)
  rw [hz2] at k2
  have kn := Blk.new (((w.alloc (.cells #[.pointer (some ⟨g, 0, none⟩)] 24)).alloc (.cells #[.string x] 9)).alloc (.cells #[.string y] 9)) 9 #[.string x, .string y]
  rw [hz3] at kn
  have hb : Below w.heap.size w ((((w.alloc (.cells #[.pointer (some ⟨g, 0, none⟩)] 24)).alloc (.cells #[.string x] 9)).alloc (.cells #[.string y] 9)).alloc (.cells #[.string x, .string y] 9)) := ((((Below.refl _ w).alloc (Nat.le_refl _) _).alloc (by simp) _).alloc (by simp; omega) _).alloc (by simp; omega) _
  have KA := Lib.hid (asked_any hN _ g m d (h.below hb) (some ⟨w.heap.size + 3, 0, none⟩) 2 2 [x, y] (StrsAt.blk kn) (by unfold maxLen; omega) (fun s hs => by
    simp at hs
    rcases hs with rfl | rfl
    · exact hx
    · exact hy))
  have K0 := Lib.hid k0
  have K1 := Lib.hid k1
  have K2 := Lib.hid k2
  have HB := Lib.hid hb
  have HD := Lib.hid (h.below hb)
  have HFI := Lib.hid hf
  clear k0 k1 k2 kn hb h hf
  go_enter Tryz.func35, Tryz.ntmps35
  go_wp2_with fail
  refine KA.out.mono ?_
  rintro y9 w4 ⟨rfl, hb4⟩
  have B4 := Lib.hid (bt'' HB.out hb4)
  have X0 := Lib.hid (K0.out.below hb4 K0.out.lt)
  have X1 := Lib.hid (K1.out.below hb4 K1.out.lt)
  have X2 := Lib.hid (K2.out.below hb4 K2.out.lt)
  have HD4 := Lib.hid (HD.out.below hb4)
  clear hb4 KA
  have hno : Dk.asked d.on [x, y] ≠ 0 → Dk.rename d x y = (Dk.asked d.on [x, y], d) := fun hne => by unfold Dk.rename; rw [if_pos hne]
  rcases asked_cases d.on [x, y] with h0 | h0 | h0
  · have hok := asked_fine h0
    rw [h0]
    clear hno
    go_wp2_with fail
    refine wp_region_free 10 [8] Stays (fun | 9 => some fun v w' => ∃ j, v = .pointer (some ⟨j, 0, none⟩) ∧ w4.heap.size ≤ j ∧ Blk w' j 76 #[.string ⟨#[]⟩, .int .i64 0] | _ => none) (by kernel_rfl) (by kernel_rfl) Stays.refl (by simp) (Stays.draw _) Stays.trans ?_ ?_
    · intro j φ v x y hB hp hxy
      split at hB <;> cases hB
      obtain ⟨j, hj, h1, hb⟩ := hp
      exact ⟨j, hj, h1, hb.stays hxy⟩
    · apply wpFree_pure rfl rfl
      · intro vs wx hk K hK
        have c0 := fun i => (X0.out.stays hk.1).cell i
        go_simp
        exact hK _ (Stays.refl _)
      intro KK hKK
      go_simp
      refine hKK _ ?_
      clear hKK KK
      apply wpFree_pure rfl rfl
      · intro vs wx hk K hK
        go_simp
        exact hK _ (Stays.refl _)
      intro KK hKK
      go_simp
      refine hKK _ ?_
      clear hKK KK
      apply wpFree_pure rfl rfl
      · intro vs wx hk K hK
        go_simp
        exact hK _ (Stays.refl _)
      intro KK hKK
      go_simp
      refine hKK _ ?_
      clear hKK KK
      apply wpFree_pure rfl rfl
      · intro vs wx hk K hK
        obtain ⟨⟨fp, acts, hbk, _⟩, _⟩ := HD4.out.stays hk.1
        have c0 := fun i => hbk.cell i
        go_simp
        exact hK _ (Stays.refl _)
      intro KK hKK
      go_simp
      refine hKK _ ?_
      clear hKK KK
      apply wpFree_pure rfl rfl
      · intro vs wx hk K hK
        have c0 := fun i => (X1.out.stays hk.1).cell i
        go_simp
        exact hK _ (Stays.refl _)
      intro KK hKK
      go_simp
      refine hKK _ ?_
      clear hKK KK
      apply wpFree_pure rfl rfl
      · intro vs wx hk K hK
        have hlk := look_file (HD4.out.stays hk.1).map x
        go_simp
        exact hK _ (Stays.refl _)
      intro KK hKK
      go_simp
      refine hKK _ ?_
      clear hKK KK
      apply wpFree_pure rfl rfl
      · intro vs wx hk K hK
        go_simp
        exact hK _ (Stays.refl _)
      intro KK hKK
      go_simp
      refine hKK _ ?_
      clear hKK KK
      apply wpFree_pure rfl rfl
      · intro vs wx hk K hK
        go_simp
        exact hK _ (Stays.refl _)
      intro KK hKK
      go_simp
      refine hKK _ ?_
      clear hKK KK
      apply wpFree_late rfl rfl
      · intro vs wx K hK
        go_simp
        exact hK
      intro KK hKK
      go_simp
      refine hKK _ ?_
      clear hKK KK
      refine wpFree_fact rfl ?_ ?_
      · intro vs wx hk K hK
        go_simp
        exact hK _ _ (Stays.alloc _ _) ⟨_, rfl, hk.1.size, Blk.new _ _ _⟩
      intro KK hKK
      go_simp
      refine hKK _ ?_
      clear hKK KK
      refine wpFree_nil ?_
      intro vs w5 hs5 hf5
      obtain ⟨j, hj, hjge, hbj⟩ := hf5 9 _ (by omega) rfl
      intro KK hKK
      rw [hj]
      simp only [List.drop_succ_cons, List.drop_zero]
      have HD5 := Lib.hid (HD4.out.stays hs5)
      have Y0 := Lib.hid (X0.out.stays hs5)
      have Y1 := Lib.hid (X1.out.stays hs5)
      have Y2 := Lib.hid (X2.out.stays hs5)
      have C5 := Lib.hid (show Chg g m w w5 from (Chg.of_below B4.out).stays hs5)
      have hlj : w.heap.size ≤ j := Nat.le_trans B4.out.size hjge
      refine wpList_store_blk rfl 76 (.tmp 8) (.tmp 25) rfl j rfl rfl hbj rfl (by kernel_rfl) (by simp [Value.oneCell']) ?_
      intro w6 hb6 hg6
      have hj0 : j ≠ w.heap.size := blk_ne hbj Y0.out (by decide)
      have Z0 := Lib.hid (Y0.out.grown hg6 (fun e => hj0 (by injection e with e; exact e.symm)))
      have hj1 : j ≠ w.heap.size + 1 := blk_ne hbj Y1.out (by decide)
      have Z1 := Lib.hid (Y1.out.grown hg6 (fun e => hj1 (by injection e with e; exact e.symm)))
      have hj2 : j ≠ w.heap.size + 2 := blk_ne hbj Y2.out (by decide)
      have Z2 := Lib.hid (Y2.out.grown hg6 (fun e => hj2 (by injection e with e; exact e.symm)))
      have C6 := Lib.hid (C5.out.grown hg6 (fun r hr => by cases hr; exact .inr (.inr hlj)))
      have HD6 := Lib.hid (HD5.out.aside hg6 hbj (by decide) (by decide))
      obtain ⟨⟨fp, acts, hb6', _⟩, hm6⟩ := id HD6.out
      have c6 := fun i => hb6'.cell i
      have HB6 := Lib.hid hb6'
      have HM6 := Lib.hid hm6
      have ZJ := Lib.hid hb6
      clear hs5 hf5 hbj hb6 hg6 HD5 Y0 Y1 Y2 C5 hb6' hm6
      have z0 := fun i => Z0.out.cell i
      have z1 := fun i => Z1.out.cell i
      have z2 := fun i => Z2.out.cell i
      cases hg : Dk.get d.files x with
      | none =>
        have HA := Lib.hid (show Dk.rename d x y = (22, d) from by unfold Dk.rename; rw [if_neg (by rw [h0]; simp), hg])
        clear h0
        go_wp2
        go_ret
        rw [HA.out]
        exact ⟨rfl, HD6.out, C6.out⟩
      | some f =>
        have hfs := HFI.out.get hg
        have HJ := Lib.hid (show Blk w6 j 76 #[.string f.data, .int .i64 (f.synced : Int)] from by have := ZJ.out; rw [hg] at this; exact this)
        have hys := isName_size (hok.2 y (by simp))
        have HA := Lib.hid (show Dk.rename d x y = Dk.act d (fun d => { d with files := Dk.put (Dk.del d.files x) y f }) from by unfold Dk.rename; rw [if_neg (by rw [h0]; simp), hg])
        clear h0
        have KA := Lib.hid (act_any w6 g m j d HD6.out HFI.out 79 #[.pointer (some ⟨w.heap.size, 0, none⟩), .pointer (some ⟨w.heap.size + 1, 0, none⟩), .pointer (some ⟨j, 0, none⟩), .pointer (some ⟨w.heap.size + 2, 0, none⟩)] (fun d => { d with files := Dk.put (Dk.del d.files x) y f }) (fun args w => rfl) (fun W d' hd hc hfl hro _ _ => (rename1_any W g m d' hd x y _ _ _ (Z0.out.chg hc (blk_ne Z0.out HB6.out (by decide)) (blk_ne_map Z0.out HM6.out)) (Z1.out.chg hc (blk_ne Z1.out HB6.out (by decide)) (blk_ne_map Z1.out HM6.out)) j f (HJ.out.chg hc (blk_ne HJ.out HB6.out (by decide)) (blk_ne_map HJ.out HM6.out)) (Z2.out.chg hc (blk_ne Z2.out HB6.out (by decide)) (blk_ne_map Z2.out HM6.out)) (by omega)).mono fun e W' ⟨a, b, c⟩ => ⟨a, b, Chj.of c⟩))
        go_wp2_with fail
        refine KA.out.mono ?_
        rintro y9 w7 ⟨rfl, hd7, hc7⟩
        have HD7 := Lib.hid hd7
        have HC7 := Lib.hid (C6.out.more hc7 hlj)
        clear hd7 hc7
        go_wp2
        go_ret
        rw [HA.out]
        exact ⟨rfl, HD7.out, HC7.out⟩
  · have HC := Lib.hid (hno (by rw [h0]; simp))
    rw [h0] at HC ⊢
    clear hno h0
    go_wp2
    go_ret
    rw [HC.out]
    exact ⟨rfl, HD4.out, Chg.of_below B4.out⟩
  · have HC := Lib.hid (hno (by rw [h0]; simp))
    rw [h0] at HC ⊢
    clear hno h0
    go_wp2
    go_ret
    rw [HC.out]
    exact ⟨rfl, HD4.out, Chg.of_below B4.out⟩
set_option maxRecDepth 100000 in
set_option maxHeartbeats 1000000 in
theorem append_any (hN : NameOk) (w : World) (g m : Nat) (d : Dk.Disk) (h : DiskAt w g m d) (hf : Dk.Fine d) (x : ByteArray) (hx : x.size ≤ 9223372036854775807) (y : ByteArray) (hy : y.size ≤ 4611686018427387904) :
    Calls Tryz.prog 31 #[.pointer (some ⟨g, 0, none⟩), .string x, .string y] w fun e w' => e = .returned (.int .i64 (Dk.append d x y).1) ∧ DiskAt w' g m (Dk.append d x y).2 ∧ Chg g m w w' := by
  have hz1 : (w.alloc (.cells #[.pointer (some ⟨g, 0, none⟩)] 24)).heap.size = w.heap.size + 1 := by simp
  have hz2 : ((w.alloc (.cells #[.pointer (some ⟨g, 0, none⟩)] 24)).alloc (.cells #[.string x] 9)).heap.size = w.heap.size + 2 := by simp
  have hz3 : (((w.alloc (.cells #[.pointer (some ⟨g, 0, none⟩)] 24)).alloc (.cells #[.string x] 9)).alloc (.cells #[.string y] 9)).heap.size = w.heap.size + 3 := by simp
  have k0 := (((Blk.new w 24 #[.pointer (some ⟨g, 0, none⟩)]).alloc (.cells #[.string x] 9)).alloc (.cells #[.string y] 9)).alloc (.cells #[.string x] 9)
  have k1 := ((Blk.new (w.alloc (.cells #[.pointer (some ⟨g, 0, none⟩)] 24)) 9 #[.string x]).alloc (.cells #[.string y] 9)).alloc (.cells #[.string x] 9)
  rw [hz1] at k1
  have k2 := (Blk.new ((w.alloc (.cells #[.pointer (some ⟨g, 0, none⟩)] 24)).alloc (.cells #[.string x] 9)) 9 #[.string y]).alloc (.cells #[.string x] 9)
  rw [hz2] at k2
  have kn := Blk.new (((w.alloc (.cells #[.pointer (some ⟨g, 0, none⟩)] 24)).alloc (.cells #[.string x] 9)).alloc (.cells #[.string y] 9)) 9 #[.string x]
  rw [hz3] at kn
  have hb : Below w.heap.size w ((((w.alloc (.cells #[.pointer (some ⟨g, 0, none⟩)] 24)).alloc (.cells #[.string x] 9)).alloc (.cells #[.string y] 9)).alloc (.cells #[.string x] 9)) := ((((Below.refl _ w).alloc (Nat.le_refl _) _).alloc (by simp) _).alloc (by simp; omega) _).alloc (by simp; omega) _
  have KA := Lib.hid (asked_any hN _ g m d (h.below hb) (some ⟨w.heap.size + 3, 0, none⟩) 1 1 [x] (StrsAt.blk kn) (by unfold maxLen; omega) (fun s hs => by simp at hs; rw [hs]; exact hx))
  have K0 := Lib.hid k0
  have K1 := Lib.hid k1
  have K2 := Lib.hid k2
  have HB := Lib.hid hb
  have HD := Lib.hid (h.below hb)
  have HFI := Lib.hid hf
  clear k0 k1 k2 kn hb h hf
  go_enter Tryz.func31, Tryz.ntmps31
  go_wp2_with fail
  refine KA.out.mono ?_
  rintro y9 w4 ⟨rfl, hb4⟩
  have B4 := Lib.hid (bt'' HB.out hb4)
  have X0 := Lib.hid (K0.out.below hb4 K0.out.lt)
  have X1 := Lib.hid (K1.out.below hb4 K1.out.lt)
  have X2 := Lib.hid (K2.out.below hb4 K2.out.lt)
  have HD4 := Lib.hid (HD.out.below hb4)
  clear hb4 KA
  have hno : Dk.asked d.on [x] ≠ 0 → Dk.append d x y = (Dk.asked d.on [x], d) := fun hne => by unfold Dk.append; rw [if_pos hne]
  rcases asked_cases d.on [x] with h0 | h0 | h0
  · have hok := asked_fine h0
    rw [h0]
    clear hno
    go_wp2_with fail
    refine wp_region_free 10 [8] Stays (fun | 9 => some fun v w' => ∃ j, v = .pointer (some ⟨j, 0, none⟩) ∧ w4.heap.size ≤ j ∧ Blk w' j 76 #[.string ⟨#[]⟩, .int .i64 0] | _ => none) (by kernel_rfl) (by kernel_rfl) Stays.refl (by simp) (Stays.draw _) Stays.trans ?_ ?_
    · intro j φ v x y hB hp hxy
      split at hB <;> cases hB
      obtain ⟨j, hj, h1, hb⟩ := hp
      exact ⟨j, hj, h1, hb.stays hxy⟩
    · apply wpFree_pure rfl rfl
      · intro vs wx hk K hK
        have c0 := fun i => (X0.out.stays hk.1).cell i
        go_simp
        exact hK _ (Stays.refl _)
      intro KK hKK
      go_simp
      refine hKK _ ?_
      clear hKK KK
      apply wpFree_pure rfl rfl
      · intro vs wx hk K hK
        go_simp
        exact hK _ (Stays.refl _)
      intro KK hKK
      go_simp
      refine hKK _ ?_
      clear hKK KK
      apply wpFree_pure rfl rfl
      · intro vs wx hk K hK
        go_simp
        exact hK _ (Stays.refl _)
      intro KK hKK
      go_simp
      refine hKK _ ?_
      clear hKK KK
      apply wpFree_pure rfl rfl
      · intro vs wx hk K hK
        obtain ⟨⟨fp, acts, hbk, _⟩, _⟩ := HD4.out.stays hk.1
        have c0 := fun i => hbk.cell i
        go_simp
        exact hK _ (Stays.refl _)
      intro KK hKK
      go_simp
      refine hKK _ ?_
      clear hKK KK
      apply wpFree_pure rfl rfl
      · intro vs wx hk K hK
        have c0 := fun i => (X1.out.stays hk.1).cell i
        go_simp
        exact hK _ (Stays.refl _)
      intro KK hKK
      go_simp
      refine hKK _ ?_
      clear hKK KK
      apply wpFree_pure rfl rfl
      · intro vs wx hk K hK
        have hlk := look_file (HD4.out.stays hk.1).map x
        go_simp
        exact hK _ (Stays.refl _)
      intro KK hKK
      go_simp
      refine hKK _ ?_
      clear hKK KK
      apply wpFree_pure rfl rfl
      · intro vs wx hk K hK
        go_simp
        exact hK _ (Stays.refl _)
      intro KK hKK
      go_simp
      refine hKK _ ?_
      clear hKK KK
      apply wpFree_pure rfl rfl
      · intro vs wx hk K hK
        go_simp
        exact hK _ (Stays.refl _)
      intro KK hKK
      go_simp
      refine hKK _ ?_
      clear hKK KK
      apply wpFree_late rfl rfl
      · intro vs wx K hK
        go_simp
        exact hK
      intro KK hKK
      go_simp
      refine hKK _ ?_
      clear hKK KK
      refine wpFree_fact rfl ?_ ?_
      · intro vs wx hk K hK
        go_simp
        exact hK _ _ (Stays.alloc _ _) ⟨_, rfl, hk.1.size, Blk.new _ _ _⟩
      intro KK hKK
      go_simp
      refine hKK _ ?_
      clear hKK KK
      refine wpFree_nil ?_
      intro vs w5 hs5 hf5
      obtain ⟨j, hj, hjge, hbj⟩ := hf5 9 _ (by omega) rfl
      intro KK hKK
      rw [hj]
      simp only [List.drop_succ_cons, List.drop_zero]
      have HD5 := Lib.hid (HD4.out.stays hs5)
      have Y0 := Lib.hid (X0.out.stays hs5)
      have Y1 := Lib.hid (X1.out.stays hs5)
      have Y2 := Lib.hid (X2.out.stays hs5)
      have C5 := Lib.hid (show Chg g m w w5 from (Chg.of_below B4.out).stays hs5)
      have hlj : w.heap.size ≤ j := Nat.le_trans B4.out.size hjge
      refine wpList_store_blk rfl 76 (.tmp 8) (.tmp 24) rfl j rfl rfl hbj rfl (by kernel_rfl) (by simp [Value.oneCell']) ?_
      intro w6 hb6 hg6
      have hj0 : j ≠ w.heap.size := blk_ne hbj Y0.out (by decide)
      have Z0 := Lib.hid (Y0.out.grown hg6 (fun e => hj0 (by injection e with e; exact e.symm)))
      have hj1 : j ≠ w.heap.size + 1 := blk_ne hbj Y1.out (by decide)
      have Z1 := Lib.hid (Y1.out.grown hg6 (fun e => hj1 (by injection e with e; exact e.symm)))
      have hj2 : j ≠ w.heap.size + 2 := blk_ne hbj Y2.out (by decide)
      have Z2 := Lib.hid (Y2.out.grown hg6 (fun e => hj2 (by injection e with e; exact e.symm)))
      have C6 := Lib.hid (C5.out.grown hg6 (fun r hr => by cases hr; exact .inr (.inr hlj)))
      have HD6 := Lib.hid (HD5.out.aside hg6 hbj (by decide) (by decide))
      obtain ⟨⟨fp, acts, hb6', _⟩, hm6⟩ := id HD6.out
      have c6 := fun i => hb6'.cell i
      have HB6 := Lib.hid hb6'
      have HM6 := Lib.hid hm6
      have ZJ := Lib.hid hb6
      clear hs5 hf5 hbj hb6 hg6 HD5 Y0 Y1 Y2 C5 hb6' hm6
      have z0 := fun i => Z0.out.cell i
      have z1 := fun i => Z1.out.cell i
      have z2 := fun i => Z2.out.cell i
      cases hg : Dk.get d.files x with
      | none =>
        have HA := Lib.hid (show Dk.append d x y = (22, d) from by unfold Dk.append; rw [if_neg (by rw [h0]; simp), hg])
        clear h0
        go_wp2
        go_ret
        rw [HA.out]
        exact ⟨rfl, HD6.out, C6.out⟩
      | some f =>
        have hfs := HFI.out.get hg
        have HJ := Lib.hid (show Blk w6 j 76 #[.string f.data, .int .i64 (f.synced : Int)] from by have := ZJ.out; rw [hg] at this; exact this)
        have zj := fun i => HJ.out.cell i
        have HC1 := Lib.hid (show Dk.append d x y = if 1048576 < f.data.size + y.size then (2, d) else if 0 ≤ d.room ∧ d.room < y.size then (24, d) else Dk.act d (fun d => { d with files := Dk.put d.files x { f with data := f.data ++ y }, room := if 0 ≤ d.room then d.room - y.size else d.room }) from by unfold Dk.append; rw [if_neg (by rw [h0]; simp), hg])
        clear h0
        by_cases hl : 1048576 < f.data.size + y.size
        · have HA := Lib.hid (show Dk.append d x y = (2, d) from by rw [HC1.out, if_pos hl])
          go_wp2
          go_ret
          rw [HA.out]
          exact ⟨rfl, HD6.out, C6.out⟩
        have hrm := HFI.out.room
        have HR := Lib.hid (show Dk.append d x y = if 0 ≤ d.room ∧ d.room < y.size then (24, d) else Dk.act d (fun d => { d with files := Dk.put d.files x { f with data := f.data ++ y }, room := if 0 ≤ d.room then d.room - y.size else d.room }) from by rw [HC1.out, if_neg hl])
        by_cases hr : 0 ≤ d.room
        · have hrd : decide (0 ≤ d.room) = true := by simpa using hr
          by_cases hlt : d.room < y.size
          · have HA := Lib.hid (show Dk.append d x y = (24, d) from by rw [HR.out, if_pos ⟨hr, hlt⟩])
            have hgd : decide (d.room < (y.size : Int)) = true := by simpa using hlt
            go_wp2_with fail
            clear zj z0 z1 z2 c6
            refine wp_region_free 15 [] Stays (fun _ => none) (by kernel_rfl) (by kernel_rfl) Stays.refl (by simp) (Stays.draw _) Stays.trans (fun j φ v x y hB => by cases hB) ?_
            apply wpFree_pure rfl rfl
            · intro vs wx hk K hK
              have c0 := fun i => (Z0.out.stays hk.1).cell i
              go_simp
              exact hK _ (Stays.refl _)
            intro KK hKK
            go_simp
            refine hKK _ ?_
            clear hKK KK
            apply wpFree_pure rfl rfl
            · intro vs wx hk K hK
              go_simp
              exact hK _ (Stays.refl _)
            intro KK hKK
            go_simp
            refine hKK _ ?_
            clear hKK KK
            apply wpFree_pure rfl rfl
            · intro vs wx hk K hK
              go_simp
              exact hK _ (Stays.refl _)
            intro KK hKK
            go_simp
            refine hKK _ ?_
            clear hKK KK
            apply wpFree_pure rfl rfl
            · intro vs wx hk K hK
              have c0 := fun i => (HB6.out.stays hk.1).cell i
              go_simp
              exact hK _ (Stays.refl _)
            intro KK hKK
            go_simp
            refine hKK _ ?_
            clear hKK KK
            apply wpFree_pure rfl rfl
            · intro vs wx hk K hK
              go_simp
              exact hK _ (Stays.refl _)
            intro KK hKK
            go_simp
            refine hKK _ ?_
            clear hKK KK
            apply wpFree_pure rfl rfl
            · intro vs wx hk K hK
              go_simp
              exact hK _ (Stays.refl _)
            intro KK hKK
            go_simp
            refine hKK _ ?_
            clear hKK KK
            apply wpFree_pure rfl rfl
            · intro vs wx hk K hK
              have c0 := fun i => (Z2.out.stays hk.1).cell i
              go_simp
              exact hK _ (Stays.refl _)
            intro KK hKK
            go_simp
            refine hKK _ ?_
            clear hKK KK
            apply wpFree_pure rfl rfl
            · intro vs wx hk K hK
              go_simp
              exact hK _ (Stays.refl _)
            intro KK hKK
            go_simp
            refine hKK _ ?_
            clear hKK KK
            apply wpFree_pure rfl rfl
            · intro vs wx hk K hK
              have c0 := fun i => (Z0.out.stays hk.1).cell i
              go_simp
              exact hK _ (Stays.refl _)
            intro KK hKK
            go_simp
            refine hKK _ ?_
            clear hKK KK
            apply wpFree_pure rfl rfl
            · intro vs wx hk K hK
              go_simp
              exact hK _ (Stays.refl _)
            intro KK hKK
            go_simp
            refine hKK _ ?_
            clear hKK KK
            apply wpFree_pure rfl rfl
            · intro vs wx hk K hK
              go_simp
              exact hK _ (Stays.refl _)
            intro KK hKK
            go_simp
            refine hKK _ ?_
            clear hKK KK
            apply wpFree_pure rfl rfl
            · intro vs wx hk K hK
              have c0 := fun i => (HB6.out.stays hk.1).cell i
              go_simp
              exact hK _ (Stays.refl _)
            intro KK hKK
            go_simp
            refine hKK _ ?_
            clear hKK KK
            apply wpFree_pure rfl rfl
            · intro vs wx hk K hK
              go_simp
              exact hK _ (Stays.refl _)
            intro KK hKK
            go_simp
            refine hKK _ ?_
            clear hKK KK
            apply wpFree_pure rfl rfl
            · intro vs wx hk K hK
              go_simp
              exact hK _ (Stays.refl _)
            intro KK hKK
            go_simp
            refine hKK _ ?_
            clear hKK KK
            apply wpFree_pure rfl rfl
            · intro vs wx hk K hK
              go_simp
              exact hK _ (Stays.refl _)
            intro KK hKK
            go_simp
            refine hKK _ ?_
            clear hKK KK
            refine wpFree_nil ?_
            intro vs8 w8 hs8 _
            intro KK2 hKK2
            simp only [List.drop_succ_cons, List.drop_nil]
            have HD8 := Lib.hid (HD6.out.stays hs8)
            have C8 := Lib.hid (C6.out.stays hs8)
            have J8 := Lib.hid (HJ.out.stays hs8)
            have V0 := Lib.hid (Z0.out.stays hs8)
            have V1 := Lib.hid (Z1.out.stays hs8)
            have V2 := Lib.hid (Z2.out.stays hs8)
            have B8 := Lib.hid (HB6.out.stays hs8)
            have M8 := Lib.hid (HM6.out.stays hs8)
            have v0 := fun i => V0.out.cell i
            clear hs8
            go_wp2
            go_ret
            rw [HA.out]
            exact ⟨rfl, HD8.out, C8.out⟩
          · have HA := Lib.hid (show Dk.append d x y = Dk.act d (fun d => { d with files := Dk.put d.files x { f with data := f.data ++ y }, room := if 0 ≤ d.room then d.room - y.size else d.room }) from by rw [HR.out, if_neg (fun h => hlt h.2)])
            have hgd : decide (d.room < (y.size : Int)) = false := by simpa using hlt
            go_wp2_with fail
            clear zj z0 z1 z2 c6
            refine wp_region_free 15 [] Stays (fun _ => none) (by kernel_rfl) (by kernel_rfl) Stays.refl (by simp) (Stays.draw _) Stays.trans (fun j φ v x y hB => by cases hB) ?_
            apply wpFree_pure rfl rfl
            · intro vs wx hk K hK
              have c0 := fun i => (Z0.out.stays hk.1).cell i
              go_simp
              exact hK _ (Stays.refl _)
            intro KK hKK
            go_simp
            refine hKK _ ?_
            clear hKK KK
            apply wpFree_pure rfl rfl
            · intro vs wx hk K hK
              go_simp
              exact hK _ (Stays.refl _)
            intro KK hKK
            go_simp
            refine hKK _ ?_
            clear hKK KK
            apply wpFree_pure rfl rfl
            · intro vs wx hk K hK
              go_simp
              exact hK _ (Stays.refl _)
            intro KK hKK
            go_simp
            refine hKK _ ?_
            clear hKK KK
            apply wpFree_pure rfl rfl
            · intro vs wx hk K hK
              have c0 := fun i => (HB6.out.stays hk.1).cell i
              go_simp
              exact hK _ (Stays.refl _)
            intro KK hKK
            go_simp
            refine hKK _ ?_
            clear hKK KK
            apply wpFree_pure rfl rfl
            · intro vs wx hk K hK
              go_simp
              exact hK _ (Stays.refl _)
            intro KK hKK
            go_simp
            refine hKK _ ?_
            clear hKK KK
            apply wpFree_pure rfl rfl
            · intro vs wx hk K hK
              go_simp
              exact hK _ (Stays.refl _)
            intro KK hKK
            go_simp
            refine hKK _ ?_
            clear hKK KK
            apply wpFree_pure rfl rfl
            · intro vs wx hk K hK
              have c0 := fun i => (Z2.out.stays hk.1).cell i
              go_simp
              exact hK _ (Stays.refl _)
            intro KK hKK
            go_simp
            refine hKK _ ?_
            clear hKK KK
            apply wpFree_pure rfl rfl
            · intro vs wx hk K hK
              go_simp
              exact hK _ (Stays.refl _)
            intro KK hKK
            go_simp
            refine hKK _ ?_
            clear hKK KK
            apply wpFree_pure rfl rfl
            · intro vs wx hk K hK
              have c0 := fun i => (Z0.out.stays hk.1).cell i
              go_simp
              exact hK _ (Stays.refl _)
            intro KK hKK
            go_simp
            refine hKK _ ?_
            clear hKK KK
            apply wpFree_pure rfl rfl
            · intro vs wx hk K hK
              go_simp
              exact hK _ (Stays.refl _)
            intro KK hKK
            go_simp
            refine hKK _ ?_
            clear hKK KK
            apply wpFree_pure rfl rfl
            · intro vs wx hk K hK
              go_simp
              exact hK _ (Stays.refl _)
            intro KK hKK
            go_simp
            refine hKK _ ?_
            clear hKK KK
            apply wpFree_pure rfl rfl
            · intro vs wx hk K hK
              have c0 := fun i => (HB6.out.stays hk.1).cell i
              go_simp
              exact hK _ (Stays.refl _)
            intro KK hKK
            go_simp
            refine hKK _ ?_
            clear hKK KK
            apply wpFree_pure rfl rfl
            · intro vs wx hk K hK
              go_simp
              exact hK _ (Stays.refl _)
            intro KK hKK
            go_simp
            refine hKK _ ?_
            clear hKK KK
            apply wpFree_pure rfl rfl
            · intro vs wx hk K hK
              go_simp
              exact hK _ (Stays.refl _)
            intro KK hKK
            go_simp
            refine hKK _ ?_
            clear hKK KK
            apply wpFree_pure rfl rfl
            · intro vs wx hk K hK
              go_simp
              exact hK _ (Stays.refl _)
            intro KK hKK
            go_simp
            refine hKK _ ?_
            clear hKK KK
            refine wpFree_nil ?_
            intro vs8 w8 hs8 _
            intro KK2 hKK2
            simp only [List.drop_succ_cons, List.drop_nil]
            have HD8 := Lib.hid (HD6.out.stays hs8)
            have C8 := Lib.hid (C6.out.stays hs8)
            have J8 := Lib.hid (HJ.out.stays hs8)
            have V0 := Lib.hid (Z0.out.stays hs8)
            have V1 := Lib.hid (Z1.out.stays hs8)
            have V2 := Lib.hid (Z2.out.stays hs8)
            have B8 := Lib.hid (HB6.out.stays hs8)
            have M8 := Lib.hid (HM6.out.stays hs8)
            have v0 := fun i => V0.out.cell i
            clear hs8
            have KA := Lib.hid (act_any w8 g m j d HD8.out HFI.out 77 #[.pointer (some ⟨j, 0, none⟩), .pointer (some ⟨w.heap.size + 2, 0, none⟩), .pointer (some ⟨w.heap.size, 0, none⟩), .pointer (some ⟨w.heap.size + 1, 0, none⟩)] (fun d => { d with files := Dk.put d.files x { f with data := f.data ++ y }, room := if 0 ≤ d.room then d.room - y.size else d.room }) (fun args w => rfl) (fun W d' hd hc hfl hro _ _ => append1_any W g m d' hd x y _ _ _ (V0.out.chg hc (blk_ne V0.out B8.out (by decide)) (blk_ne_map V0.out M8.out)) (V1.out.chg hc (blk_ne V1.out B8.out (by decide)) (blk_ne_map V1.out M8.out)) j f (J8.out.chg hc (blk_ne J8.out B8.out (by decide)) (blk_ne_map J8.out M8.out)) (V2.out.chg hc (blk_ne V2.out B8.out (by decide)) (blk_ne_map V2.out M8.out)) (by omega) (hro ▸ hrm) (hro ▸ fun h => by omega)))
            go_wp2_with fail
            refine KA.out.mono ?_
            rintro y9 w9 ⟨rfl, hd9, hc9⟩
            have HD9 := Lib.hid hd9
            have HC9 := Lib.hid (C8.out.more hc9 hlj)
            clear hd9 hc9
            go_wp2
            go_ret
            rw [HA.out]
            exact ⟨rfl, HD9.out, HC9.out⟩
        · have HA := Lib.hid (show Dk.append d x y = Dk.act d (fun d => { d with files := Dk.put d.files x { f with data := f.data ++ y }, room := if 0 ≤ d.room then d.room - y.size else d.room }) from by rw [HR.out, if_neg (fun h => hr h.1)])
          have hrd : decide (0 ≤ d.room) = false := by simpa using hr
          go_wp2_with fail
          clear zj z0 z1 z2 c6
          refine wp_region_free 15 [] Stays (fun _ => none) (by kernel_rfl) (by kernel_rfl) Stays.refl (by simp) (Stays.draw _) Stays.trans (fun j φ v x y hB => by cases hB) ?_
          apply wpFree_pure rfl rfl
          · intro vs wx hk K hK
            have c0 := fun i => (Z0.out.stays hk.1).cell i
            go_simp
            exact hK _ (Stays.refl _)
          intro KK hKK
          go_simp
          refine hKK _ ?_
          clear hKK KK
          apply wpFree_pure rfl rfl
          · intro vs wx hk K hK
            go_simp
            exact hK _ (Stays.refl _)
          intro KK hKK
          go_simp
          refine hKK _ ?_
          clear hKK KK
          apply wpFree_pure rfl rfl
          · intro vs wx hk K hK
            go_simp
            exact hK _ (Stays.refl _)
          intro KK hKK
          go_simp
          refine hKK _ ?_
          clear hKK KK
          apply wpFree_pure rfl rfl
          · intro vs wx hk K hK
            have c0 := fun i => (HB6.out.stays hk.1).cell i
            go_simp
            exact hK _ (Stays.refl _)
          intro KK hKK
          go_simp
          refine hKK _ ?_
          clear hKK KK
          apply wpFree_pure rfl rfl
          · intro vs wx hk K hK
            go_simp
            exact hK _ (Stays.refl _)
          intro KK hKK
          go_simp
          refine hKK _ ?_
          clear hKK KK
          apply wpFree_pure rfl rfl
          · intro vs wx hk K hK
            go_simp
            exact hK _ (Stays.refl _)
          intro KK hKK
          go_simp
          refine hKK _ ?_
          clear hKK KK
          apply wpFree_pure rfl rfl
          · intro vs wx hk K hK
            have c0 := fun i => (Z2.out.stays hk.1).cell i
            go_simp
            exact hK _ (Stays.refl _)
          intro KK hKK
          go_simp
          refine hKK _ ?_
          clear hKK KK
          apply wpFree_pure rfl rfl
          · intro vs wx hk K hK
            go_simp
            exact hK _ (Stays.refl _)
          intro KK hKK
          go_simp
          refine hKK _ ?_
          clear hKK KK
          apply wpFree_pure rfl rfl
          · intro vs wx hk K hK
            have c0 := fun i => (Z0.out.stays hk.1).cell i
            go_simp
            exact hK _ (Stays.refl _)
          intro KK hKK
          go_simp
          refine hKK _ ?_
          clear hKK KK
          apply wpFree_pure rfl rfl
          · intro vs wx hk K hK
            go_simp
            exact hK _ (Stays.refl _)
          intro KK hKK
          go_simp
          refine hKK _ ?_
          clear hKK KK
          apply wpFree_pure rfl rfl
          · intro vs wx hk K hK
            go_simp
            exact hK _ (Stays.refl _)
          intro KK hKK
          go_simp
          refine hKK _ ?_
          clear hKK KK
          apply wpFree_pure rfl rfl
          · intro vs wx hk K hK
            have c0 := fun i => (HB6.out.stays hk.1).cell i
            go_simp
            exact hK _ (Stays.refl _)
          intro KK hKK
          go_simp
          refine hKK _ ?_
          clear hKK KK
          apply wpFree_pure rfl rfl
          · intro vs wx hk K hK
            go_simp
            exact hK _ (Stays.refl _)
          intro KK hKK
          go_simp
          refine hKK _ ?_
          clear hKK KK
          apply wpFree_pure rfl rfl
          · intro vs wx hk K hK
            go_simp
            exact hK _ (Stays.refl _)
          intro KK hKK
          go_simp
          refine hKK _ ?_
          clear hKK KK
          apply wpFree_pure rfl rfl
          · intro vs wx hk K hK
            go_simp
            exact hK _ (Stays.refl _)
          intro KK hKK
          go_simp
          refine hKK _ ?_
          clear hKK KK
          refine wpFree_nil ?_
          intro vs8 w8 hs8 _
          intro KK2 hKK2
          simp only [List.drop_succ_cons, List.drop_nil]
          have HD8 := Lib.hid (HD6.out.stays hs8)
          have C8 := Lib.hid (C6.out.stays hs8)
          have J8 := Lib.hid (HJ.out.stays hs8)
          have V0 := Lib.hid (Z0.out.stays hs8)
          have V1 := Lib.hid (Z1.out.stays hs8)
          have V2 := Lib.hid (Z2.out.stays hs8)
          have B8 := Lib.hid (HB6.out.stays hs8)
          have M8 := Lib.hid (HM6.out.stays hs8)
          have v0 := fun i => V0.out.cell i
          clear hs8
          have KA := Lib.hid (act_any w8 g m j d HD8.out HFI.out 77 #[.pointer (some ⟨j, 0, none⟩), .pointer (some ⟨w.heap.size + 2, 0, none⟩), .pointer (some ⟨w.heap.size, 0, none⟩), .pointer (some ⟨w.heap.size + 1, 0, none⟩)] (fun d => { d with files := Dk.put d.files x { f with data := f.data ++ y }, room := if 0 ≤ d.room then d.room - y.size else d.room }) (fun args w => rfl) (fun W d' hd hc hfl hro _ _ => append1_any W g m d' hd x y _ _ _ (V0.out.chg hc (blk_ne V0.out B8.out (by decide)) (blk_ne_map V0.out M8.out)) (V1.out.chg hc (blk_ne V1.out B8.out (by decide)) (blk_ne_map V1.out M8.out)) j f (J8.out.chg hc (blk_ne J8.out B8.out (by decide)) (blk_ne_map J8.out M8.out)) (V2.out.chg hc (blk_ne V2.out B8.out (by decide)) (blk_ne_map V2.out M8.out)) (by omega) (hro ▸ hrm) (hro ▸ fun h => by omega)))
          go_wp2_with fail
          refine KA.out.mono ?_
          rintro y9 w9 ⟨rfl, hd9, hc9⟩
          have HD9 := Lib.hid hd9
          have HC9 := Lib.hid (C8.out.more hc9 hlj)
          clear hd9 hc9
          go_wp2
          go_ret
          rw [HA.out]
          exact ⟨rfl, HD9.out, HC9.out⟩
  · have HC := Lib.hid (hno (by rw [h0]; simp))
    rw [h0] at HC ⊢
    clear hno h0
    go_wp2
    go_ret
    rw [HC.out]
    exact ⟨rfl, HD4.out, Chg.of_below B4.out⟩
  · have HC := Lib.hid (hno (by rw [h0]; simp))
    rw [h0] at HC ⊢
    clear hno h0
    go_wp2
    go_ret
    rw [HC.out]
    exact ⟨rfl, HD4.out, Chg.of_below B4.out⟩
end Go.Proofs.YtlbdpcokddpjpaaGreatDoor
