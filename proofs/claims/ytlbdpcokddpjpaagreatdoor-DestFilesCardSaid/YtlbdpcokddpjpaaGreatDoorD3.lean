/- Parts, joined. -/
import Derived.Test.YtlbdpcokddpjpaaGreatDoorD2
import Derived.Test.YtlbdpcokddpjpaaGreatDoorShelf
import Derived.Test.YtlbdpcokddpjpaaGreatDoorD1
/- What disk.Create, and what it does, return. -/
namespace Go.Proofs.YtlbdpcokddpjpaaGreatDoor
set_option linter.unusedVariables false
open Go Go.RowKit Go.BigFrame Go.MapKept Go.ChangeMaps
theorem infoFile : (Tryz.prog.info? 76).map (fun i => (i.zero, i.size, i.bytes)) = some (some (.agg #[.string ByteArray.empty, .int .i64 0]), 2, 24) := by kernel_rfl
theorem zeroFile (w : World) : (zeroValue 76).run Tryz.prog w = .ok (.agg #[.string ByteArray.empty, .int .i64 0]) w := by
  obtain ⟨i, hi, hz, hs, hb⟩ := info_parts infoFile
  simp [zeroValue, typeInfo, hi, hz, Result.andThen]
set_option maxRecDepth 100000 in
set_option maxHeartbeats 1000000 in
theorem stringsClone_any (s : ByteArray) (w : World) (hs : s.size ≤ 281474976710656) : Calls Tryz.prog 76 #[.string s] w fun e w' => e = .returned (.string s) ∧ Below w.heap.size w w' := by
  have K := Lib.hid (Tryz.stringslite_Clone s w hs)
  go_enter Tryz.func76, Tryz.ntmps76
  go_wp2_with fail
  refine K.out.mono ?_
  rintro x w2 ⟨rfl, hb⟩
  go_wp2
  go_ret
  exact ⟨rfl, hb⟩
def fileOr (o : Option Dk.File) : Dk.File := o.getD ⟨ByteArray.empty, 0⟩
theorem look_file {w : World} {m : Nat} {l : List (ByteArray × Dk.File)} (h : MapL fileV w m l) (x : ByteArray) :
    (Instr.lookup 57 (.map (some m)) (.string x) true).run Tryz.prog w = .ok (.tuple #[.agg #[.string (fileOr (Dk.get l x)).data, .int .i64 (fileOr (Dk.get l x)).synced], .bool (Dk.get l x).isSome]) w := by
  have := h.look (P := Tryz.prog) Tryz.underlying57 Tryz.underlying9 (zeroFile w) x true
  rw [this]
  cases Dk.get l x <;> rfl
namespace Dk
def emptyF : File := ⟨ByteArray.empty, 0⟩
def create (d : Disk) (x : ByteArray) : Int × Disk :=
  if asked d.on [x] ≠ 0 then (asked d.on [x], d) else if (get d.files x).isSome then (23, d) else if 2000 ≤ d.files.length ∨ d.room = 0 then (24, d) else act d fun d => { d with files := put d.files x emptyF }
theorem Fine.create {d : Disk} (h : Fine d) (x : ByteArray) : Fine (create d x).2 := by
  unfold Dk.create
  split
  · exact h
  · split
    · exact h
    · split
      · exact h
      · rename_i h1 h2
        refine h.act fun d' h' hf _ => ⟨fun p hp => ?_, ?_, h'.room, h'.fuse⟩
        · have hh := hf ▸ h1
          unfold put at hp
          split at hp
          · obtain ⟨q, hq, rfl⟩ := List.mem_map.1 hp
            by_cases hq1 : q.1 = x
            · rw [if_pos hq1]; exact ⟨Nat.zero_le _, Nat.zero_le _⟩
            · rw [if_neg hq1]; exact h'.file q hq
          · rcases List.mem_append.1 hp with hp | hp
            · exact h'.file p hp
            · simp at hp
              subst hp
              exact ⟨Nat.zero_le _, Nat.zero_le _⟩
        · show (put d'.files x emptyF).length ≤ 2000
          rw [len_put]
          have := h'.few
          split
          · exact this
          · rw [hf]; omega
end Dk
section
variable {w w' : World} {g m : Nat} {d : Dk.Disk}
/-- The disk behind a store into its map. -/
theorem DiskAt.mapped (h : DiskAt w g m d) {l : List (ByteArray × Dk.File)} (hm : MapL fileV w' m l) (hg : w.grownBy w' (some m)) : DiskAt w' g m { d with files := l } := by
  obtain ⟨⟨fp, acts, hb, h2⟩, hm0⟩ := h
  have hgm := blk_ne_map hb hm0
  refine ⟨⟨fp, acts, hb.grown hg (fun e => hgm (by injection e)), h2.grown hg (fun k hk cs hb' => ?_)⟩, hm⟩
  cases hk
  exact absurd rfl (blk_ne_map hb' hm0)
end
set_option maxRecDepth 100000 in
set_option maxHeartbeats 1000000 in
theorem create1_any (W : World) (g m : Nat) (d : Dk.Disk) (h : DiskAt W g m d) (x : ByteArray) (b0 b1 : Nat) (h0 : W.cell? ⟨b0, 0, none⟩ = some (.pointer (some ⟨g, 0, none⟩))) (h1 : W.cell? ⟨b1, 0, none⟩ = some (.string x)) (l0 : b0 < W.heap.size) (l1 : b1 < W.heap.size) (hx : x.size ≤ 281474976710656) :
    Calls Tryz.prog 75 #[.pointer (some ⟨b0, 0, none⟩), .pointer (some ⟨b1, 0, none⟩)] W fun e W' => e = .returned (.tuple #[]) ∧ DiskAt W' g m { d with files := Dk.put d.files x Dk.emptyF } ∧ Chg g m W W' := by
  have HD := Lib.hid h
  obtain ⟨⟨fp, acts, hb, _⟩, hm⟩ := h
  have HB := Lib.hid hb
  have H0 := Lib.hid (fun W' (hs : Stays W W') => (hs.cell (p := ⟨b0, 0, none⟩) l0).trans h0)
  have H1 := Lib.hid (fun W' (hs : Stays W W') => (hs.cell (p := ⟨b1, 0, none⟩) l1).trans h1)
  clear hb hm h0 h1
  go_enter Tryz.func75, Tryz.ntmps75
  go_wp2_with fail
  refine wp_region_free 7 [] Stays (fun _ => none) (by kernel_rfl) (by kernel_rfl) Stays.refl (by simp) (Stays.draw _) Stays.trans (fun j φ v x y hB => by cases hB) ?_
  apply wpFree_pure rfl rfl
  · intro vs wx hk K hK
    have c0 := H0.out _ hk.1
    go_simp
    exact hK _ (Stays.refl _)
  intro KK hKK
  go_simp
  refine hKK _ ?_
  clear hKK KK
  apply wpFree_pure rfl rfl
  · intro vs wx hk K hK
    go_simp
    exact hK _ (Stays.refl _)
  intro KK hKK
  go_simp
  refine hKK _ ?_
  clear hKK KK
  apply wpFree_pure rfl rfl
  · intro vs wx hk K hK
    go_simp
    exact hK _ (Stays.refl _)
  intro KK hKK
  go_simp
  refine hKK _ ?_
  clear hKK KK
  apply wpFree_pure rfl rfl
  · intro vs wx hk K hK
    have c0 := fun i => (HB.out.stays hk.1).cell i
    go_simp
    exact hK _ (Stays.refl _)
  intro KK hKK
  go_simp
  refine hKK _ ?_
  clear hKK KK
  apply wpFree_pure rfl rfl
  · intro vs wx hk K hK
    have c0 := H1.out _ hk.1
    go_simp
    exact hK _ (Stays.refl _)
  intro KK hKK
  go_simp
  refine hKK _ ?_
  clear hKK KK
  apply wpFree_pure rfl rfl
  · intro vs wx hk K hK
    go_simp
    first
      | exact hK _ (Stays.refl _)
      | exact Calls.free hK (stringsClone_any _ _ hx)
  intro KK hKK
  go_simp
  refine hKK _ ?_
  clear hKK KK
  apply wpFree_pure rfl rfl
  · intro vs wx hk K hK
    go_simp
    exact hK _ (Stays.refl _)
  intro KK hKK
  go_simp
  refine hKK _ ?_
  clear hKK KK
  refine wpFree_nil ?_
  intro vs w4 hs4 _
  intro KK hKK
  simp only [List.drop_succ_cons, List.drop_zero]
  refine wpList_put_L (enc := fileV) rfl (.tmp 5) (.tmp 7) (.tmp 8) _ rfl (HD.out.stays hs4).map Tryz.underlying57 Tryz.underlying9 x Dk.emptyF rfl rfl rfl ?_
  intro w5 hm5 hg5
  have HD5 := Lib.hid ((HD.out.stays hs4).mapped hm5 hg5)
  have HC5 := Lib.hid (show Chg g m W w5 from ((Chg.refl g m W).stays hs4).grown hg5 (fun r hr => by cases hr; exact .inr (.inl rfl)))
  clear hm5 hg5 hs4
  go_wp2
  refine bodyPost_end (results_none rfl _ _ _) rfl ⟨rfl, HD5.out, HC5.out⟩
end Go.Proofs.YtlbdpcokddpjpaaGreatDoor

/- What disk.Create returns: the walk. -/
namespace Go.Proofs.YtlbdpcokddpjpaaGreatDoor
set_option linter.unusedVariables false
open Go Go.RowKit Go.BigFrame Go.MapKept Go.ChangeMaps
theorem asked_one (on : Bool) (x : ByteArray) : Dk.asked on [x] = 0 ∨ Dk.asked on [x] = 20 ∨ Dk.asked on [x] = 21 := by
  unfold Dk.asked
  split
  · exact .inr (.inl rfl)
  · split
    · exact .inr (.inr rfl)
    · exact .inl rfl
theorem asked_ok {on : Bool} {x : ByteArray} (h : Dk.asked on [x] = 0) : on = true ∧ Dk.isName x = true := by
  unfold Dk.asked at h
  cases on with
  | false => simp at h
  | true => simpa using h
theorem isName_size {x : ByteArray} (h : Dk.isName x = true) : x.size ≤ 64 := by
  unfold Dk.isName at h
  simp only [Bool.and_eq_true, decide_eq_true_eq] at h
  exact h.1.2
/-- A block of another type turns. -/
theorem DiskAt.aside {w w' : World} {g m j : Nat} {d : Dk.Disk} {t : TypeId} {cs : Array Value} (h : DiskAt w g m d) (hg : w.grownBy w' (some j)) (hb : Blk w j t cs) (h1 : t ≠ 60) (h2 : t ≠ 88) : DiskAt w' g m d := by
  obtain ⟨⟨fp, acts, hk, hu⟩, hm⟩ := h
  have n1 : g ≠ j := blk_ne hk hb (fun e => h1 e.symm)
  have n2 : j ≠ m := blk_ne_map hb hm
  refine ⟨⟨fp, acts, hk.grown hg (fun e => n1 (by injection e)), hu.grown hg (fun k hk' cs' hb' => ?_)⟩, hm.grown hg (fun e => n2 (by injection e with e; exact e.symm))⟩
  cases hk'
  exact absurd rfl (blk_ne hb hb' h2)
set_option maxRecDepth 100000 in
set_option maxHeartbeats 1000000 in
theorem create_any (hN : NameOk) (w : World) (g m : Nat) (d : Dk.Disk) (h : DiskAt w g m d) (hf : Dk.Fine d) (x : ByteArray) (hx : x.size ≤ 9223372036854775807) :
    Calls Tryz.prog 29 #[.pointer (some ⟨g, 0, none⟩), .string x] w fun e w' => e = .returned (.int .i64 (Dk.create d x).1) ∧ DiskAt w' g m (Dk.create d x).2 ∧ Chg g m w w' := by
  have hz1 : (w.alloc (.cells #[.pointer (some ⟨g, 0, none⟩)] 24)).heap.size = w.heap.size + 1 := by simp
  have hz2 : ((w.alloc (.cells #[.pointer (some ⟨g, 0, none⟩)] 24)).alloc (.cells #[.string x] 9)).heap.size = w.heap.size + 2 := by simp
  have k0 := ((Blk.new w 24 #[.pointer (some ⟨g, 0, none⟩)]).alloc (.cells #[.string x] 9)).alloc (.cells #[.string x] 9)
  have k1 := (Blk.new (w.alloc (.cells #[.pointer (some ⟨g, 0, none⟩)] 24)) 9 #[.string x]).alloc (.cells #[.string x] 9)
  have k2 := Blk.new ((w.alloc (.cells #[.pointer (some ⟨g, 0, none⟩)] 24)).alloc (.cells #[.string x] 9)) 9 #[.string x]
  rw [hz1] at k1
  rw [hz2] at k2
  have hb : Below w.heap.size w (((w.alloc (.cells #[.pointer (some ⟨g, 0, none⟩)] 24)).alloc (.cells #[.string x] 9)).alloc (.cells #[.string x] 9)) := (((Below.refl _ w).alloc (Nat.le_refl _) _).alloc (by simp) _).alloc (by simp; omega) _
  have KA := Lib.hid (asked_any hN _ g m d (h.below hb) (some ⟨w.heap.size + 2, 0, none⟩) 1 1 [x] (StrsAt.blk k2) (by unfold maxLen; omega) (fun s hs => by simp at hs; rw [hs]; exact hx))
  have K0 := Lib.hid k0
  have K1 := Lib.hid k1
  have HB := Lib.hid hb
  have HD := Lib.hid (h.below hb)
  have HFI := Lib.hid hf
  clear k0 k1 k2 hb h hf
  go_enter Tryz.func29, Tryz.ntmps29
  go_wp2_with fail
  refine KA.out.mono ?_
  rintro y w4 ⟨rfl, hb4⟩
  have B4 := Lib.hid (bt'' HB.out hb4)
  have X0 := Lib.hid (K0.out.below hb4 K0.out.lt)
  have X1 := Lib.hid (K1.out.below hb4 K1.out.lt)
  have HD4 := Lib.hid (HD.out.below hb4)
  clear hb4 KA
  have hno : Dk.asked d.on [x] ≠ 0 → Dk.create d x = (Dk.asked d.on [x], d) := fun hne => by unfold Dk.create; rw [if_pos hne]
  rcases asked_one d.on x with h0 | h0 | h0
  · have hok := asked_ok h0
    have hxs := isName_size hok.2
    have HC0 := Lib.hid (show Dk.create d x = if (Dk.get d.files x).isSome then (23, d) else if 2000 ≤ d.files.length ∨ d.room = 0 then (24, d) else Dk.act d fun d => { d with files := Dk.put d.files x Dk.emptyF } from by unfold Dk.create; rw [if_neg (by rw [h0]; simp)])
    rw [h0]
    clear hno h0 hok
    go_wp2_with fail
    refine wp_region_free 10 [8] Stays (fun | 9 => some fun v w' => ∃ j, v = .pointer (some ⟨j, 0, none⟩) ∧ w4.heap.size ≤ j ∧ Blk w' j 76 #[.string ⟨#[]⟩, .int .i64 0] | _ => none) (by kernel_rfl) (by kernel_rfl) Stays.refl (by simp) (Stays.draw _) Stays.trans ?_ ?_
    · intro j φ v x y hB hp hxy
      split at hB <;> cases hB
      obtain ⟨j, hj, h1, hb⟩ := hp
      exact ⟨j, hj, h1, hb.stays hxy⟩
    · apply wpFree_pure rfl rfl
      · intro vs wx hk K hK
        have c0 := fun i => (X0.out.stays hk.1).cell i
        go_simp
        exact hK _ (Stays.refl _)
      intro KK hKK
      go_simp
      refine hKK _ ?_
      clear hKK KK
      apply wpFree_pure rfl rfl
      · intro vs wx hk K hK
        go_simp
        exact hK _ (Stays.refl _)
      intro KK hKK
      go_simp
      refine hKK _ ?_
      clear hKK KK
      apply wpFree_pure rfl rfl
      · intro vs wx hk K hK
        go_simp
        exact hK _ (Stays.refl _)
      intro KK hKK
      go_simp
      refine hKK _ ?_
      clear hKK KK
      apply wpFree_pure rfl rfl
      · intro vs wx hk K hK
        obtain ⟨⟨fp, acts, hbk, _⟩, _⟩ := HD4.out.stays hk.1
        have c0 := fun i => hbk.cell i
        go_simp
        exact hK _ (Stays.refl _)
      intro KK hKK
      go_simp
      refine hKK _ ?_
      clear hKK KK
      apply wpFree_pure rfl rfl
      · intro vs wx hk K hK
        have c0 := fun i => (X1.out.stays hk.1).cell i
        go_simp
        exact hK _ (Stays.refl _)
      intro KK hKK
      go_simp
      refine hKK _ ?_
      clear hKK KK
      apply wpFree_pure rfl rfl
      · intro vs wx hk K hK
        have hlk := look_file (HD4.out.stays hk.1).map x
        go_simp
        exact hK _ (Stays.refl _)
      intro KK hKK
      go_simp
      refine hKK _ ?_
      clear hKK KK
      apply wpFree_pure rfl rfl
      · intro vs wx hk K hK
        go_simp
        exact hK _ (Stays.refl _)
      intro KK hKK
      go_simp
      refine hKK _ ?_
      clear hKK KK
      apply wpFree_pure rfl rfl
      · intro vs wx hk K hK
        go_simp
        exact hK _ (Stays.refl _)
      intro KK hKK
      go_simp
      refine hKK _ ?_
      clear hKK KK
      apply wpFree_late rfl rfl
      · intro vs wx K hK
        go_simp
        exact hK
      intro KK hKK
      go_simp
      refine hKK _ ?_
      clear hKK KK
      refine wpFree_fact rfl ?_ ?_
      · intro vs wx hk K hK
        go_simp
        exact hK _ _ (Stays.alloc _ _) ⟨_, rfl, hk.1.size, Blk.new _ _ _⟩
      intro KK hKK
      go_simp
      refine hKK _ ?_
      clear hKK KK
      refine wpFree_nil ?_
      intro vs w5 hs5 hf5
      obtain ⟨j, hj, hjge, hbj⟩ := hf5 9 _ (by omega) rfl
      intro KK hKK
      rw [hj]
      simp only [List.drop_succ_cons, List.drop_zero]
      have HD5 := Lib.hid (HD4.out.stays hs5)
      have Y0 := Lib.hid (X0.out.stays hs5)
      have Y1 := Lib.hid (X1.out.stays hs5)
      have C5 := Lib.hid (show Chg g m w w5 from (Chg.of_below B4.out).stays hs5)
      have hlj : w.heap.size ≤ j := Nat.le_trans B4.out.size hjge
      refine wpList_store_blk rfl 76 (.tmp 6) (.tmp 22) rfl j rfl rfl hbj rfl (by kernel_rfl) (by simp [Value.oneCell']) ?_
      intro w6 hb6 hg6
      have hj0 : j ≠ w.heap.size := blk_ne hbj Y0.out (by decide)
      have hj1 : j ≠ w.heap.size + 1 := blk_ne hbj Y1.out (by decide)
      have Z0 := Lib.hid (Y0.out.grown hg6 (fun e => hj0 (by injection e with e; exact e.symm)))
      have Z1 := Lib.hid (Y1.out.grown hg6 (fun e => hj1 (by injection e with e; exact e.symm)))
      have C6 := Lib.hid (C5.out.grown hg6 (fun r hr => by cases hr; exact .inr (.inr hlj)))
      have HD6 := Lib.hid (HD5.out.aside hg6 hbj (by decide) (by decide))
      obtain ⟨⟨fp, acts, hb6', _⟩, hm6⟩ := id HD6.out
      have c6 := fun i => hb6'.cell i
      have hln := fun ty => hm6.len (P := Tryz.prog) (t := 57) (by kernel_rfl) ty
      have HB6 := Lib.hid hb6'
      have HM6 := Lib.hid hm6
      clear hs5 hf5 hbj hb6 hg6 HD5 Y0 Y1 C5 hj0 hj1 hb6' hm6
      have z0 := fun i => Z0.out.cell i
      have z1 := fun i => Z1.out.cell i
      cases hg : (Dk.get d.files x).isSome with
      | true =>
        have HA := Lib.hid (show Dk.create d x = (23, d) from by rw [HC0.out, hg]; rfl)
        go_wp2
        go_ret
        rw [HA.out]
        exact ⟨rfl, HD6.out, C6.out⟩
      | false =>
        have HC1 := Lib.hid (show Dk.create d x = if 2000 ≤ d.files.length ∨ d.room = 0 then (24, d) else Dk.act d fun d => { d with files := Dk.put d.files x Dk.emptyF } from by rw [HC0.out, hg]; rfl)
        by_cases hl : 2000 ≤ d.files.length
        · have HA := Lib.hid (show Dk.create d x = (24, d) from by rw [HC1.out, if_pos (.inl hl)])
          go_wp2
          go_ret
          rw [HA.out]
          exact ⟨rfl, HD6.out, C6.out⟩
        · by_cases hr : d.room = 0
          · have HA := Lib.hid (show Dk.create d x = (24, d) from by rw [HC1.out, if_pos (.inr hr)])
            go_wp2
            go_ret
            rw [HA.out]
            exact ⟨rfl, HD6.out, C6.out⟩
          · have HA := Lib.hid (show Dk.create d x = Dk.act d fun d => { d with files := Dk.put d.files x Dk.emptyF } from by rw [HC1.out, if_neg (fun h => h.elim hl hr)])
            have hrb : (d.room == 0) = false := by simpa using hr
            have KA := Lib.hid (act_any w6 g m g d HD6.out HFI.out 75 #[.pointer (some ⟨w.heap.size, 0, none⟩), .pointer (some ⟨w.heap.size + 1, 0, none⟩)] (fun d => { d with files := Dk.put d.files x Dk.emptyF }) (fun args w => rfl) (fun W d' hd hc _ _ _ _ =>
              (create1_any W g m d' hd x _ _ ((Z0.out.chg hc (blk_ne Z0.out HB6.out (by decide)) (blk_ne_map Z0.out HM6.out)).cell 0) ((Z1.out.chg hc (blk_ne Z1.out HB6.out (by decide)) (blk_ne_map Z1.out HM6.out)).cell 0) (Nat.lt_of_lt_of_le Z0.out.lt hc.size) (Nat.lt_of_lt_of_le Z1.out.lt hc.size) (by omega)).mono fun e W' ⟨a, b, c⟩ => ⟨a, b, Chj.of c⟩))
            go_wp2_with fail
            refine KA.out.mono ?_
            rintro y w7 ⟨rfl, hd7, hc7⟩
            have HD7 := Lib.hid hd7
            have HC7 := Lib.hid (C6.out.trans hc7.self)
            clear hd7 hc7
            go_wp2
            go_ret
            rw [HA.out]
            exact ⟨rfl, HD7.out, HC7.out⟩
  · have HC := Lib.hid (hno (by rw [h0]; simp))
    rw [h0] at HC ⊢
    clear hno h0
    go_wp2
    go_ret
    rw [HC.out]
    exact ⟨rfl, HD4.out, Chg.of_below B4.out⟩
  · have HC := Lib.hid (hno (by rw [h0]; simp))
    rw [h0] at HC ⊢
    clear hno h0
    go_wp2
    go_ret
    rw [HC.out]
    exact ⟨rfl, HD4.out, Chg.of_below B4.out⟩
end Go.Proofs.YtlbdpcokddpjpaaGreatDoor

/- What Sync, Remove, Append and Rename do to a disk; their inner functions.  -/
namespace Go.Proofs.YtlbdpcokddpjpaaGreatDoor
set_option linter.unusedVariables false
open Go Go.RowKit Go.BigFrame Go.MapKept Go.ChangeMaps
namespace Dk
def sync (d : Disk) (x : ByteArray) : Int × Disk := if asked d.on [x] ≠ 0 then (asked d.on [x], d) else match get d.files x with
  | none => (22, d)
  | some f => act d fun d => { d with files := put d.files x { f with synced := f.data.size } }
def remove (d : Disk) (x : ByteArray) : Int × Disk := if asked d.on [x] ≠ 0 then (asked d.on [x], d) else match get d.files x with
  | none => (22, d)
  | some _ => act d fun d => { d with files := del d.files x }
def append (d : Disk) (x y : ByteArray) : Int × Disk := if asked d.on [x] ≠ 0 then (asked d.on [x], d) else match get d.files x with
  | none => (22, d)
  | some f => if 1048576 < f.data.size + y.size then (2, d) else if 0 ≤ d.room ∧ d.room < y.size then (24, d) else act d fun d => { d with files := put d.files x { f with data := f.data ++ y }, room := if 0 ≤ d.room then d.room - y.size else d.room }
def rename (d : Disk) (x y : ByteArray) : Int × Disk := if asked d.on [x, y] ≠ 0 then (asked d.on [x, y], d) else match get d.files x with
  | none => (22, d)
  | some f => act d fun d => { d with files := put (del d.files x) y f }
def read (d : Disk) (x : ByteArray) : ByteArray × Int := if asked d.on [x] ≠ 0 then (ByteArray.empty, asked d.on [x]) else match get d.files x with
  | none => (ByteArray.empty, 22)
  | some f => (f.data, 0)
theorem put_file {l : List (ByteArray × File)} {x : ByteArray} {f : File} {p : ByteArray × File} (hp : p ∈ put l x f) : p.2 = f ∨ p ∈ l := by
  unfold put at hp
  split at hp
  · obtain ⟨q, hq, rfl⟩ := List.mem_map.1 hp
    by_cases h : q.1 = x
    · rw [if_pos h]; exact .inl rfl
    · rw [if_neg h]; exact .inr hq
  · rcases List.mem_append.1 hp with hp | hp
    · exact .inr hp
    · simp at hp
      subst hp
      exact .inl rfl
theorem del_mem {l : List (ByteArray × File)} {x : ByteArray} {p : ByteArray × File} (hp : p ∈ del l x) : p ∈ l := (List.mem_filter.1 hp).1
theorem put_few {l : List (ByteArray × File)} {x : ByteArray} {f : File} (h : (get l x).isSome) : (put l x f).length = l.length := by rw [len_put, if_pos h]
theorem len_del {l : List (ByteArray × File)} {x : ByteArray} {f : File} (h : get l x = some f) : (del l x).length < l.length := by
  have hm := get_mem h
  unfold del
  rw [← List.countP_eq_length_filter]
  refine Nat.lt_of_le_of_ne List.countP_le_length (fun e => ?_)
  have := List.countP_eq_length.1 e _ hm
  simp at this
theorem Fine.sync {d : Disk} (h : Fine d) (x : ByteArray) : Fine (sync d x).2 := by
  unfold Dk.sync
  split
  · exact h
  · cases hg : Dk.get d.files x with
    | none => exact h
    | some f =>
      refine h.act fun d' h' hf _ => ⟨fun p hp => ?_, ?_, h'.room, h'.fuse⟩
      · rcases put_file hp with e | e
        · rw [e]
          exact ⟨Nat.le_refl _, (h.get hg).2⟩
        · exact h'.file p e
      · show (put d'.files x _).length ≤ 2000
        rw [put_few (by rw [hf, hg]; rfl)]
        exact h'.few
theorem Fine.remove {d : Disk} (h : Fine d) (x : ByteArray) : Fine (remove d x).2 := by
  unfold Dk.remove
  split
  · exact h
  · cases hg : Dk.get d.files x with
    | none => exact h
    | some f =>
      refine h.act fun d' h' hf _ => ⟨fun p hp => h'.file p (del_mem hp), ?_, h'.room, h'.fuse⟩
      exact Nat.le_trans (List.length_filter_le _ _) h'.few
theorem Fine.append {d : Disk} (h : Fine d) (x y : ByteArray) : Fine (append d x y).2 := by
  unfold Dk.append
  split
  · exact h
  · cases hg : Dk.get d.files x with
    | none => exact h
    | some f =>
      simp only
      split
      · exact h
      · rename_i h1
        split
        · exact h
        · rename_i h2
          have hfs := h.get hg
          refine h.act fun d' h' hf hr => ⟨fun p hp => ?_, ?_, ?_, h'.fuse⟩
          · rcases put_file hp with e | e
            · rw [e]
              show f.synced ≤ (f.data ++ y).size ∧ (f.data ++ y).size ≤ 1048576
              rw [ByteArray.size_append]
              omega
            · exact h'.file p e
          · show (put d'.files x _).length ≤ 2000
            rw [put_few (by rw [hf, hg]; rfl)]
            exact h'.few
          · have := h'.room
            show -1 ≤ (if 0 ≤ d'.room then d'.room - y.size else d'.room) ∧ (if 0 ≤ d'.room then d'.room - y.size else d'.room) ≤ _
            rw [hr] at this ⊢
            split <;> omega
theorem Fine.rename {d : Disk} (h : Fine d) (x y : ByteArray) : Fine (rename d x y).2 := by
  unfold Dk.rename
  split
  · exact h
  · cases hg : Dk.get d.files x with
    | none => exact h
    | some f =>
      refine h.act fun d' h' hf _ => ⟨fun p hp => ?_, ?_, h'.room, h'.fuse⟩
      · rcases put_file hp with e | e
        · rw [e]
          exact h.get hg
        · exact h'.file p (del_mem e)
      · show (put (del d'.files x) y f).length ≤ 2000
        have h1 := len_del (x := x) (f := f) (l := d'.files) (by rw [hf]; exact hg)
        have := h'.few
        rw [len_put]
        split <;> omega
end Dk
theorem asked_cases (on : Bool) (l : List ByteArray) : Dk.asked on l = 0 ∨ Dk.asked on l = 20 ∨ Dk.asked on l = 21 := by
  unfold Dk.asked
  split
  · exact .inr (.inl rfl)
  · split
    · exact .inr (.inr rfl)
    · exact .inl rfl
theorem asked_fine {on : Bool} {l : List ByteArray} (h : Dk.asked on l = 0) : on = true ∧ ∀ x ∈ l, Dk.isName x = true := by
  unfold Dk.asked at h
  cases on with
  | false => simp at h
  | true =>
    refine ⟨rfl, fun x hx => ?_⟩
    cases hn : Dk.isName x with
    | true => rfl
    | false =>
      have : (l.any fun s => !Dk.isName s) = true := List.any_eq_true.2 ⟨x, hx, by rw [hn]; rfl⟩
      rw [this] at h
      simp at h
set_option maxRecDepth 100000 in
set_option maxHeartbeats 1000000 in
theorem remove1_any (W : World) (g m : Nat) (d : Dk.Disk) (h : DiskAt W g m d) (x : ByteArray) (b0 b1 : Nat) (h0 : Blk W b0 24 #[.pointer (some ⟨g, 0, none⟩)]) (h1 : Blk W b1 9 #[.string x]) :
    Calls Tryz.prog 74 #[.pointer (some ⟨b0, 0, none⟩), .pointer (some ⟨b1, 0, none⟩)] W fun e W' => e = .returned (.tuple #[]) ∧ DiskAt W' g m { d with files := Dk.del d.files x } ∧ Chg g m W W' := by
  have HD := Lib.hid h
  obtain ⟨⟨fp, acts, hb, _⟩, hm⟩ := h
  have HB := Lib.hid hb
  have H0 := Lib.hid h0
  have H1 := Lib.hid h1
  clear hb hm h0 h1
  go_enter Tryz.func74, Tryz.ntmps74
  go_wp2_with fail
  refine wp_region_free 5 [] Stays (fun _ => none) (by kernel_rfl) (by kernel_rfl) Stays.refl (by simp) (Stays.draw _) Stays.trans (fun j φ v x y hB => by cases hB) ?_
  apply wpFree_pure rfl rfl
  · intro vs wx hk K hK
    have c0 := fun i => (H0.out.stays hk.1).cell i
    go_simp
    exact hK _ (Stays.refl _)
  intro KK hKK
  go_simp
  refine hKK _ ?_
  clear hKK KK
  apply wpFree_pure rfl rfl
  · intro vs wx hk K hK
    go_simp
    exact hK _ (Stays.refl _)
  intro KK hKK
  go_simp
  refine hKK _ ?_
  clear hKK KK
  apply wpFree_pure rfl rfl
  · intro vs wx hk K hK
    go_simp
    exact hK _ (Stays.refl _)
  intro KK hKK
  go_simp
  refine hKK _ ?_
  clear hKK KK
  apply wpFree_pure rfl rfl
  · intro vs wx hk K hK
    have c0 := fun i => (HB.out.stays hk.1).cell i
    go_simp
    exact hK _ (Stays.refl _)
  intro KK hKK
  go_simp
  refine hKK _ ?_
  clear hKK KK
  apply wpFree_pure rfl rfl
  · intro vs wx hk K hK
    have c0 := fun i => (H1.out.stays hk.1).cell i
    go_simp
    exact hK _ (Stays.refl _)
  intro KK hKK
  go_simp
  refine hKK _ ?_
  clear hKK KK
  refine wpFree_nil ?_
  intro vs w4 hs4 _
  intro KK hKK
  simp only [List.drop_succ_cons, List.drop_zero]
  refine wpList_del_L (enc := fileV) rfl (.tmp 5) (.tmp 6) _ rfl (HD.out.stays hs4).map Tryz.underlying57 Tryz.underlying9 x rfl rfl ?_
  intro w5 hm5 hg5
  have HD5 := Lib.hid ((HD.out.stays hs4).mapped hm5 hg5)
  have HC5 := Lib.hid (show Chg g m W w5 from ((Chg.refl g m W).stays hs4).grown hg5 (fun r hr => by cases hr; exact .inr (.inl rfl)))
  clear hm5 hg5 hs4
  go_wp2
  refine bodyPost_end (results_none rfl _ _ _) rfl ⟨rfl, HD5.out, HC5.out⟩
set_option maxRecDepth 100000 in
set_option maxHeartbeats 1000000 in
theorem sync1_any (W : World) (g m : Nat) (d : Dk.Disk) (h : DiskAt W g m d) (x : ByteArray) (b0 b1 : Nat) (h0 : Blk W b0 24 #[.pointer (some ⟨g, 0, none⟩)]) (h1 : Blk W b1 9 #[.string x]) (j : Nat) (f : Dk.File) (hj : Blk W j 76 #[.string f.data, .int .i64 (f.synced : Int)]) (hsz : f.data.size ≤ 1048576) :
    Calls Tryz.prog 78 #[.pointer (some ⟨j, 0, none⟩), .pointer (some ⟨b0, 0, none⟩), .pointer (some ⟨b1, 0, none⟩)] W fun e W' => e = .returned (.tuple #[]) ∧ DiskAt W' g m { d with files := Dk.put d.files x { f with synced := f.data.size } } ∧ Chj g m j W W' := by
  have G1 := Lib.hid (show W.grownBy (W.setCell ⟨j, 1, none⟩ (.int .i64 (f.data.size : Int))) (some j) from grown_set _ _ _ _)
  have D1 := Lib.hid (h.aside G1.out hj (by decide) (by decide))
  obtain ⟨⟨fp, acts, hb, _⟩, hm⟩ := D1.out
  have J1 := Lib.hid (show Blk (W.setCell ⟨j, 1, none⟩ (.int .i64 (f.data.size : Int))) j 76 #[.string f.data, .int .i64 (f.data.size : Int)] from hj.set_ 1 _)
  have B1 := Lib.hid hb
  have H0 := Lib.hid (h0.grown G1.out (fun e => blk_ne h0 hj (by decide) (by injection e)))
  have H1 := Lib.hid (h1.grown G1.out (fun e => blk_ne h1 hj (by decide) (by injection e)))
  have hjl := hj.lt
  have cj := fun i => hj.cell i
  have fj := fun i => hj.frozen i
  clear hb hm hj h0 h1
  go_enter Tryz.func78, Tryz.ntmps78
  go_wp2_with fail
  clear cj fj
  have C1 := Lib.hid (show Chj g m j W (W.setCell ⟨j, 1, none⟩ (.int .i64 (f.data.size : Int))) from (Chj.refl g m j W).set_ (.inr (.inr (.inl rfl))) _)
  generalize W.setCell ⟨j, 1, none⟩ (.int .i64 (f.data.size : Int)) = w1 at *
  refine wp_region_free 6 [] Stays (fun _ => none) (by kernel_rfl) (by kernel_rfl) Stays.refl (by simp) (Stays.draw _) Stays.trans (fun j φ v x y hB => by cases hB) ?_
  apply wpFree_pure rfl rfl
  · intro vs wx hk K hK
    have c0 := fun i => (H0.out.stays hk.1).cell i
    go_simp
    exact hK _ (Stays.refl _)
  intro KK hKK
  go_simp
  refine hKK _ ?_
  clear hKK KK
  apply wpFree_pure rfl rfl
  · intro vs wx hk K hK
    go_simp
    exact hK _ (Stays.refl _)
  intro KK hKK
  go_simp
  refine hKK _ ?_
  clear hKK KK
  apply wpFree_pure rfl rfl
  · intro vs wx hk K hK
    go_simp
    exact hK _ (Stays.refl _)
  intro KK hKK
  go_simp
  refine hKK _ ?_
  clear hKK KK
  apply wpFree_pure rfl rfl
  · intro vs wx hk K hK
    have c0 := fun i => (B1.out.stays hk.1).cell i
    go_simp
    exact hK _ (Stays.refl _)
  intro KK hKK
  go_simp
  refine hKK _ ?_
  clear hKK KK
  apply wpFree_pure rfl rfl
  · intro vs wx hk K hK
    have c0 := fun i => (H1.out.stays hk.1).cell i
    go_simp
    exact hK _ (Stays.refl _)
  intro KK hKK
  go_simp
  refine hKK _ ?_
  clear hKK KK
  apply wpFree_pure rfl rfl
  · intro vs wx hk K hK
    have c0 := fun i => (J1.out.stays hk.1).cell i
    go_simp
    exact hK _ (Stays.refl _)
  intro KK hKK
  go_simp
  refine hKK _ ?_
  clear hKK KK
  refine wpFree_nil ?_
  intro vs w4 hs4 _
  intro KK hKK
  simp only [List.drop_succ_cons, List.drop_zero]
  refine wpList_put_L (enc := fileV) rfl (.tmp 10) (.tmp 11) (.tmp 12) _ rfl (D1.out.stays hs4).map Tryz.underlying57 Tryz.underlying9 x { f with synced := f.data.size } rfl rfl rfl ?_
  intro w5 hm5 hg5
  have HD5 := Lib.hid ((D1.out.stays hs4).mapped hm5 hg5)
  have HC5 := Lib.hid (show Chj g m j W w5 from (C1.out.stays hs4).grown hg5 (fun r hr => by cases hr; exact .inr (.inl rfl)))
  clear hm5 hg5 hs4
  go_wp2
  refine bodyPost_end (results_none rfl _ _ _) rfl ⟨rfl, HD5.out, HC5.out⟩
set_option maxRecDepth 100000 in
set_option maxHeartbeats 1000000 in
theorem rename1_any (W : World) (g m : Nat) (d : Dk.Disk) (h : DiskAt W g m d) (x y : ByteArray) (b0 b1 b2 : Nat) (h0 : Blk W b0 24 #[.pointer (some ⟨g, 0, none⟩)]) (h1 : Blk W b1 9 #[.string x]) (j : Nat) (f : Dk.File) (hj : Blk W j 76 #[.string f.data, .int .i64 (f.synced : Int)]) (h2 : Blk W b2 9 #[.string y]) (hy : y.size ≤ 281474976710656) :
    Calls Tryz.prog 79 #[.pointer (some ⟨b0, 0, none⟩), .pointer (some ⟨b1, 0, none⟩), .pointer (some ⟨j, 0, none⟩), .pointer (some ⟨b2, 0, none⟩)] W fun e W' => e = .returned (.tuple #[]) ∧ DiskAt W' g m { d with files := Dk.put (Dk.del d.files x) y f } ∧ Chg g m W W' := by
  have HD := Lib.hid h
  obtain ⟨⟨fp, acts, hb, _⟩, hm⟩ := h
  have HB := Lib.hid hb
  have HM := Lib.hid hm
  have H0 := Lib.hid h0
  have H1 := Lib.hid h1
  have H2 := Lib.hid h2
  have HJ := Lib.hid hj
  clear hb hm h0 h1 h2 hj
  go_enter Tryz.func79, Tryz.ntmps79
  go_wp2_with fail
  refine wp_region_free 5 [] Stays (fun _ => none) (by kernel_rfl) (by kernel_rfl) Stays.refl (by simp) (Stays.draw _) Stays.trans (fun j φ v x y hB => by cases hB) ?_
  apply wpFree_pure rfl rfl
  · intro vs wx hk K hK
    have c0 := fun i => (H0.out.stays hk.1).cell i
    go_simp
    exact hK _ (Stays.refl _)
  intro KK hKK
  go_simp
  refine hKK _ ?_
  clear hKK KK
  apply wpFree_pure rfl rfl
  · intro vs wx hk K hK
    go_simp
    exact hK _ (Stays.refl _)
  intro KK hKK
  go_simp
  refine hKK _ ?_
  clear hKK KK
  apply wpFree_pure rfl rfl
  · intro vs wx hk K hK
    go_simp
    exact hK _ (Stays.refl _)
  intro KK hKK
  go_simp
  refine hKK _ ?_
  clear hKK KK
  apply wpFree_pure rfl rfl
  · intro vs wx hk K hK
    have c0 := fun i => (HB.out.stays hk.1).cell i
    go_simp
    exact hK _ (Stays.refl _)
  intro KK hKK
  go_simp
  refine hKK _ ?_
  clear hKK KK
  apply wpFree_pure rfl rfl
  · intro vs wx hk K hK
    have c0 := fun i => (H1.out.stays hk.1).cell i
    go_simp
    exact hK _ (Stays.refl _)
  intro KK hKK
  go_simp
  refine hKK _ ?_
  clear hKK KK
  refine wpFree_nil ?_
  intro vs w4 hs4 _
  intro KK hKK
  simp only [List.drop_succ_cons, List.drop_zero]
  refine wpList_del_L (enc := fileV) rfl (.tmp 7) (.tmp 8) _ rfl (HD.out.stays hs4).map Tryz.underlying57 Tryz.underlying9 x rfl rfl ?_
  intro w5 hm5 hg5
  have HD5 := Lib.hid ((HD.out.stays hs4).mapped hm5 hg5)
  have HC5 := Lib.hid (show Chg g m W w5 from ((Chg.refl g m W).stays hs4).grown hg5 (fun r hr => by cases hr; exact .inr (.inl rfl)))
  have M0 := HM.out.stays hs4
  have X0 := Lib.hid ((H0.out.stays hs4).grown hg5 (fun e => blk_ne_map (H0.out.stays hs4) M0 (by injection e)))
  have X2 := Lib.hid ((H2.out.stays hs4).grown hg5 (fun e => blk_ne_map (H2.out.stays hs4) M0 (by injection e)))
  have XB := Lib.hid ((HB.out.stays hs4).grown hg5 (fun e => blk_ne_map (HB.out.stays hs4) M0 (by injection e)))
  have XJ := Lib.hid ((HJ.out.stays hs4).grown hg5 (fun e => blk_ne_map (HJ.out.stays hs4) M0 (by injection e)))
  clear hm5 hg5 hs4 M0
  go_wp2_with fail
  refine wp_region_free 7 [] Stays (fun _ => none) (by kernel_rfl) (by kernel_rfl) Stays.refl (by simp) (Stays.draw _) Stays.trans (fun j φ v x y hB => by cases hB) ?_
  apply wpFree_pure rfl rfl
  · intro vs wx hk K hK
    have c0 := fun i => (X0.out.stays hk.1).cell i
    go_simp
    exact hK _ (Stays.refl _)
  intro KK hKK
  go_simp
  refine hKK _ ?_
  clear hKK KK
  apply wpFree_pure rfl rfl
  · intro vs wx hk K hK
    go_simp
    exact hK _ (Stays.refl _)
  intro KK hKK
  go_simp
  refine hKK _ ?_
  clear hKK KK
  apply wpFree_pure rfl rfl
  · intro vs wx hk K hK
    go_simp
    exact hK _ (Stays.refl _)
  intro KK hKK
  go_simp
  refine hKK _ ?_
  clear hKK KK
  apply wpFree_pure rfl rfl
  · intro vs wx hk K hK
    have c0 := fun i => (XB.out.stays hk.1).cell i
    go_simp
    exact hK _ (Stays.refl _)
  intro KK hKK
  go_simp
  refine hKK _ ?_
  clear hKK KK
  apply wpFree_pure rfl rfl
  · intro vs wx hk K hK
    have c0 := fun i => (X2.out.stays hk.1).cell i
    go_simp
    exact hK _ (Stays.refl _)
  intro KK hKK
  go_simp
  refine hKK _ ?_
  clear hKK KK
  apply wpFree_pure rfl rfl
  · intro vs wx hk K hK
    go_simp
    first
      | exact hK _ (Stays.refl _)
      | exact Calls.free hK (stringsClone_any _ _ hy)
  intro KK hKK
  go_simp
  refine hKK _ ?_
  clear hKK KK
  apply wpFree_pure rfl rfl
  · intro vs wx hk K hK
    have c0 := fun i => (XJ.out.stays hk.1).cell i
    go_simp
    exact hK _ (Stays.refl _)
  intro KK hKK
  go_simp
  refine hKK _ ?_
  clear hKK KK
  refine wpFree_nil ?_
  intro vs6 w6 hs6 _
  intro KK2 hKK2
  simp only [List.drop_succ_cons, List.drop_zero]
  refine wpList_put_L (enc := fileV) rfl (.tmp 12) (.tmp 14) (.tmp 15) _ rfl (HD5.out.stays hs6).map Tryz.underlying57 Tryz.underlying9 y f rfl rfl rfl ?_
  intro w7 hm7 hg7
  have HD7 := Lib.hid ((HD5.out.stays hs6).mapped hm7 hg7)
  have HC7 := Lib.hid (show Chg g m W w7 from (HC5.out.stays hs6).grown hg7 (fun r hr => by cases hr; exact .inr (.inl rfl)))
  clear hm7 hg7 hs6
  go_wp2
  refine bodyPost_end (results_none rfl _ _ _) rfl ⟨rfl, HD7.out, HC7.out⟩
theorem DiskAt.roomed {w : World} {g m : Nat} {d : Dk.Disk} (h : DiskAt w g m d) (x : Int) : DiskAt (w.setCell ⟨g, 2, none⟩ (.int .i64 x)) g m { d with room := x } := by
  obtain ⟨⟨fp0, acts, hb, h2⟩, hm⟩ := h
  have hgm := blk_ne_map hb hm
  refine ⟨⟨fp0, acts, hb.set_ 2 _, h2.keep (fun k hk => Below.heap_setCell _ _ _ _ (fun e => ?_))⟩, hm.set_ (fun e => hgm e.symm) _⟩
  simp only at e
  subst e
  cases hu : d.fuse with
  | none => rw [hu] at h2; rw [show fp0 = none from h2] at hk; cases hk
  | some u =>
    rw [hu] at h2
    obtain ⟨k', hk', hb'⟩ := h2
    rw [hk] at hk'
    cases hk'
    exact absurd rfl (blk_ne hb' hb (by decide))
set_option maxRecDepth 100000 in
set_option maxHeartbeats 1000000 in
theorem append1_any (W : World) (g m : Nat) (d : Dk.Disk) (h : DiskAt W g m d) (x y : ByteArray) (b0 b1 b2 : Nat) (h0 : Blk W b0 24 #[.pointer (some ⟨g, 0, none⟩)]) (h1 : Blk W b1 9 #[.string x]) (j : Nat) (f : Dk.File) (hj : Blk W j 76 #[.string f.data, .int .i64 (f.synced : Int)]) (h2 : Blk W b2 9 #[.string y]) (hsz : f.data.size + y.size ≤ 1048576) (hrm : -1 ≤ d.room ∧ d.room ≤ 9223372036854775807) (hry : 0 ≤ d.room → (y.size : Int) ≤ d.room) :
    Calls Tryz.prog 77 #[.pointer (some ⟨j, 0, none⟩), .pointer (some ⟨b2, 0, none⟩), .pointer (some ⟨b0, 0, none⟩), .pointer (some ⟨b1, 0, none⟩)] W fun e W' => e = .returned (.tuple #[]) ∧ DiskAt W' g m { d with files := Dk.put d.files x { f with data := f.data ++ y }, room := if 0 ≤ d.room then d.room - y.size else d.room } ∧ Chj g m j W W' := by
  have G1 := Lib.hid (show W.grownBy (W.setCell ⟨j, 0, none⟩ (.string (f.data ++ y))) (some j) from grown_set _ _ _ _)
  have D1 := Lib.hid (h.aside G1.out hj (by decide) (by decide))
  obtain ⟨⟨fp, acts, hb, _⟩, hm⟩ := D1.out
  have J1 := Lib.hid (show Blk (W.setCell ⟨j, 0, none⟩ (.string (f.data ++ y))) j 76 #[.string (f.data ++ y), .int .i64 (f.synced : Int)] from hj.set_ 0 _)
  have B1 := Lib.hid hb
  have M1 := Lib.hid hm
  have H0 := Lib.hid (h0.grown G1.out (fun e => blk_ne h0 hj (by decide) (by injection e)))
  have H1 := Lib.hid (h1.grown G1.out (fun e => blk_ne h1 hj (by decide) (by injection e)))
  have H2 := Lib.hid (h2.grown G1.out (fun e => blk_ne h2 hj (by decide) (by injection e)))
  have hjl := hj.lt
  have cj := fun i => hj.cell i
  have fj := fun i => hj.frozen i
  have c2 := fun i => h2.cell i
  clear hb hm hj h0 h1 h2
  go_enter Tryz.func77, Tryz.ntmps77
  go_wp2_with fail
  clear cj fj c2
  have C1 := Lib.hid (show Chj g m j W (W.setCell ⟨j, 0, none⟩ (.string (f.data ++ y))) from (Chj.refl g m j W).set_ (.inr (.inr (.inl rfl))) _)
  generalize W.setCell ⟨j, 0, none⟩ (.string (f.data ++ y)) = w1 at *
  refine wp_region_free 6 [] Stays (fun _ => none) (by kernel_rfl) (by kernel_rfl) Stays.refl (by simp) (Stays.draw _) Stays.trans (fun j φ v x y hB => by cases hB) ?_
  apply wpFree_pure rfl rfl
  · intro vs wx hk K hK
    have c0 := fun i => (H0.out.stays hk.1).cell i
    go_simp
    exact hK _ (Stays.refl _)
  intro KK hKK
  go_simp
  refine hKK _ ?_
  clear hKK KK
  apply wpFree_pure rfl rfl
  · intro vs wx hk K hK
    go_simp
    exact hK _ (Stays.refl _)
  intro KK hKK
  go_simp
  refine hKK _ ?_
  clear hKK KK
  apply wpFree_pure rfl rfl
  · intro vs wx hk K hK
    go_simp
    exact hK _ (Stays.refl _)
  intro KK hKK
  go_simp
  refine hKK _ ?_
  clear hKK KK
  apply wpFree_pure rfl rfl
  · intro vs wx hk K hK
    have c0 := fun i => (B1.out.stays hk.1).cell i
    go_simp
    exact hK _ (Stays.refl _)
  intro KK hKK
  go_simp
  refine hKK _ ?_
  clear hKK KK
  apply wpFree_pure rfl rfl
  · intro vs wx hk K hK
    have c0 := fun i => (H1.out.stays hk.1).cell i
    go_simp
    exact hK _ (Stays.refl _)
  intro KK hKK
  go_simp
  refine hKK _ ?_
  clear hKK KK
  apply wpFree_pure rfl rfl
  · intro vs wx hk K hK
    have c0 := fun i => (J1.out.stays hk.1).cell i
    go_simp
    exact hK _ (Stays.refl _)
  intro KK hKK
  go_simp
  refine hKK _ ?_
  clear hKK KK
  refine wpFree_nil ?_
  intro vs w4 hs4 _
  intro KK hKK
  simp only [List.drop_succ_cons, List.drop_zero]
  refine wpList_put_L (enc := fileV) rfl (.tmp 12) (.tmp 13) (.tmp 14) _ rfl (D1.out.stays hs4).map Tryz.underlying57 Tryz.underlying9 x { f with data := f.data ++ y } rfl rfl rfl ?_
  intro w5 hm5 hg5
  have HD5 := Lib.hid ((D1.out.stays hs4).mapped hm5 hg5)
  have HC5 := Lib.hid (show Chj g m j W w5 from (C1.out.stays hs4).grown hg5 (fun r hr => by cases hr; exact .inr (.inl rfl)))
  have M0 := M1.out.stays hs4
  have X0 := Lib.hid ((H0.out.stays hs4).grown hg5 (fun e => blk_ne_map (H0.out.stays hs4) M0 (by injection e)))
  have X2 := Lib.hid ((H2.out.stays hs4).grown hg5 (fun e => blk_ne_map (H2.out.stays hs4) M0 (by injection e)))
  have XB := Lib.hid ((B1.out.stays hs4).grown hg5 (fun e => blk_ne_map (B1.out.stays hs4) M0 (by injection e)))
  have x0 := fun i => X0.out.cell i
  have xb := fun i => XB.out.cell i
  clear hm5 hg5 hs4 M0
  by_cases hr : 0 ≤ d.room
  · have hyr := hry hr
    have hwr : IntKind.i64.wrap (d.room - (y.size : Int)) = d.room - (y.size : Int) := IntWalk.i64_in _ ⟨by omega, by omega⟩
    go_wp2_with fail
    clear x0 xb
    refine wp_region_free 7 [] Stays (fun _ => none) (by kernel_rfl) (by kernel_rfl) Stays.refl (by simp) (Stays.draw _) Stays.trans (fun j φ v x y hB => by cases hB) ?_
    apply wpFree_pure rfl rfl
    · intro vs wx hk K hK
      have c0 := fun i => (X0.out.stays hk.1).cell i
      go_simp
      exact hK _ (Stays.refl _)
    intro KK hKK
    go_simp
    refine hKK _ ?_
    clear hKK KK
    apply wpFree_pure rfl rfl
    · intro vs wx hk K hK
      go_simp
      exact hK _ (Stays.refl _)
    intro KK hKK
    go_simp
    refine hKK _ ?_
    clear hKK KK
    apply wpFree_pure rfl rfl
    · intro vs wx hk K hK
      go_simp
      exact hK _ (Stays.refl _)
    intro KK hKK
    go_simp
    refine hKK _ ?_
    clear hKK KK
    apply wpFree_pure rfl rfl
    · intro vs wx hk K hK
      have c0 := fun i => (XB.out.stays hk.1).cell i
      go_simp
      exact hK _ (Stays.refl _)
    intro KK hKK
    go_simp
    refine hKK _ ?_
    clear hKK KK
    apply wpFree_pure rfl rfl
    · intro vs wx hk K hK
      have c0 := fun i => (X2.out.stays hk.1).cell i
      go_simp
      exact hK _ (Stays.refl _)
    intro KK hKK
    go_simp
    refine hKK _ ?_
    clear hKK KK
    apply wpFree_pure rfl rfl
    · intro vs wx hk K hK
      go_simp
      exact hK _ (Stays.refl _)
    intro KK hKK
    go_simp
    refine hKK _ ?_
    clear hKK KK
    apply wpFree_pure rfl rfl
    · intro vs wx hk K hK
      go_simp
      exact hK _ (Stays.refl _)
    intro KK hKK
    go_simp
    refine hKK _ ?_
    clear hKK KK
    refine wpFree_nil ?_
    intro vs6 w6 hs6 _
    intro KK2 hKK2
    simp only [List.drop_succ_cons, List.drop_zero]
    have HD6 := Lib.hid ((HD5.out.stays hs6).roomed (d.room - (y.size : Int)))
    have HC6 := Lib.hid (show Chj g m j W (w6.setCell ⟨g, 2, none⟩ (.int .i64 (d.room - (y.size : Int)))) from (HC5.out.stays hs6).set_ (.inl rfl) _)
    have xb := fun i => (XB.out.stays hs6).cell i
    have fb := fun i => (XB.out.stays hs6).frozen i
    have HR := Lib.hid (show (if 0 ≤ d.room then d.room - (y.size : Int) else d.room) = d.room - (y.size : Int) from if_pos hr)
    clear hs6
    go_wp2
    refine bodyPost_end (results_none rfl _ _ _) rfl ?_
    exact ⟨rfl, HD6.out, HC6.out⟩
  · have HR := Lib.hid (show (if 0 ≤ d.room then d.room - (y.size : Int) else d.room) = d.room from if_neg hr)
    go_wp2
    refine bodyPost_end (results_none rfl _ _ _) rfl ?_
    first
      | exact ⟨rfl, HD5.out, HC5.out⟩
      | (rw [HR.out]; exact ⟨rfl, HD5.out, HC5.out⟩)
end Go.Proofs.YtlbdpcokddpjpaaGreatDoor
