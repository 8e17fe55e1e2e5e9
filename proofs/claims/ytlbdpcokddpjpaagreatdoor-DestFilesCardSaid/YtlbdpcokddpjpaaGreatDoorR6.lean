/- Parts, joined. -/
import Derived.Test.YtlbdpcokddpjpaaGreatDoorR5
import Derived.Test.YtlbdpcokddpjpaaGreatDoorD8
/- DestFiles: every file written, or its error, as the document says; all files behind it. Conditions: that alive returns true. -/
namespace Go.Proofs.YtlbdpcokddpjpaaGreatDoor
set_option linter.unusedVariables false
open Go Go.RowKit Go.BigFrame
namespace Dk
/-- No name is long. -/
def Named (l : List (ByteArray × File)) : Prop := ∀ p ∈ l, p.1.size ≤ 64
theorem Named.put {l : List (ByteArray × File)} (h : Named l) {x : ByteArray} {f : File} (hx : x.size ≤ 64) : Named (put l x f) := by
  intro p hp
  unfold Dk.put at hp
  split at hp
  · obtain ⟨q, hq, rfl⟩ := List.mem_map.1 hp
    split
    · exact hx
    · exact h q hq
  · rcases List.mem_append.1 hp with hp | hp
    · exact h p hp
    · simp at hp; subst hp; exact hx
theorem Named.del {l : List (ByteArray × File)} (h : Named l) (x : ByteArray) : Named (del l x) := fun p hp => h p (del_mem hp)
theorem Named.old {l : List (ByteArray × File)} (h : Named l) {x : ByteArray} {f : File} (hg : get l x = some f) : x.size ≤ 64 := h _ (get_mem hg)
variable {d : Disk} {x y : ByteArray}
theorem size_of_ask (h : asked d.on [x] = 0) : x.size ≤ 64 := isName_size (asked_ok h).2
theorem act_named {F : Disk → Disk} (hf : d.fuse = none) (h : Named (F d).files) : Named (act d F).2.files := by unfold act; rw [hf]; exact h
theorem act_fuse {F : Disk → Disk} (hf : d.fuse = none) (h : (F d).fuse = none) : (act d F).2.fuse = none := by unfold act; rw [hf]; exact h
theorem named_fstep (hf : d.fuse = none) (h : Named d.files) (k : Nat) (hx : True) : Named (fstep x y k d).2.files ∧ (fstep x y k d).2.fuse = none := by
  unfold fstep
  split
  · unfold create
    split
    · exact ⟨h, hf⟩
    · rename_i h0
      split
      · exact ⟨h, hf⟩
      · split
        · exact ⟨h, hf⟩
        · exact ⟨act_named hf (h.put (size_of_ask (by simpa using h0))), act_fuse hf hf⟩
  · split
    · unfold append
      split
      · exact ⟨h, hf⟩
      · split
        · exact ⟨h, hf⟩
        · rename_i f hg
          split
          · exact ⟨h, hf⟩
          · split
            · exact ⟨h, hf⟩
            · exact ⟨act_named hf (h.put (h.old hg)), act_fuse hf hf⟩
    · split
      · unfold sync
        split
        · exact ⟨h, hf⟩
        · split
          · exact ⟨h, hf⟩
          · rename_i f hg
            exact ⟨act_named hf (h.put (h.old hg)), act_fuse hf hf⟩
      · unfold rename
        split
        · exact ⟨h, hf⟩
        · rename_i h0
          split
          · exact ⟨h, hf⟩
          · refine ⟨act_named hf ((h.del _).put (isName_size ((asked_fine (by simpa using h0)).2 x (by simp)))), act_fuse hf hf⟩
theorem named_frun : ∀ (n k : Nat) {d : Disk}, d.fuse = none → Named d.files → Named (frun x y n k d).2.files ∧ (frun x y n k d).2.fuse = none
  | 0, _, _, hf, h => ⟨h, hf⟩
  | n + 1, k, d, hf, h => by
    obtain ⟨h1, h2⟩ := named_fstep (x := x) (y := y) hf h k trivial
    unfold frun
    split
    · exact ⟨h1, h2⟩
    · exact named_frun n (k + 1) h2 h1
theorem named_file (hf : d.fuse = none) (h : Named d.files) : Named (file d x y).2.files := by
  have hr : Named (remove d (bes x)).2.files ∧ (remove d (bes x)).2.fuse = none := by
    unfold remove
    split
    · exact ⟨h, hf⟩
    · split
      · exact ⟨h, hf⟩
      · exact ⟨act_named hf (h.del _), act_fuse hf hf⟩
  unfold file
  split
  · exact hr.1
  · exact (named_frun 4 0 hr.2 hr.1).1
theorem named_fileV (hf : d.fuse = none) (h : Named d.files) (dir ch : ByteArray) (id : Int) : Named (fileV d dir ch id y).2.2.files := by
  unfold fileV
  split
  · exact named_file hf h
  · exact h
theorem Fine.fileV (h : Fine d) (dir ch : ByteArray) (id : Int) (y : ByteArray) : Fine (Dk.fileV d dir ch id y).2.2 := by
  unfold Dk.fileV
  split
  · exact h.filed _ _
  · exact h
theorem Fine.roomed (h : Fine d) {n : Int} (hn : n ≤ 9223372036854775807) : Fine (Dk.roomed d n) := ⟨h.file, h.few, by unfold Dk.roomed; simp only; omega, h.fuse⟩
end Dk
namespace Rf
variable {r : Disk} {n : Nat}
theorem Fine.more (h : Fine n r) : Fine (n + 1) r := ⟨Nat.le_succ_of_le h.len, h.file, h.left⟩
theorem Fine.filed (h : Fine n r) (x y : ByteArray) : Fine (n + 1) (Rf.file r x y).2 := by
  unfold Rf.file
  have h1 : Fine n (if (Rf.read r (Dk.bes x)).2 = 0 then (Rf.remove r (Dk.bes x)).2 else r) := by
    split
    · exact h.remove _
    · exact h
  split
  · exact (h.remove _).more
  · simp only
    generalize (if (Rf.read r (Dk.bes x)).2 = 0 then (Rf.remove r (Dk.bes x)).2 else r) = r1 at h1 ⊢
    split
    · exact h1.create _
    · split
      · exact (h1.create _).append _ _
      · split
        · exact ((h1.create _).append _ _).sync _
        · exact (((h1.create _).append _ _).sync _).rename _ _
theorem Fine.fileV (h : Fine n r) (dir ch : ByteArray) (id : Int) (y : ByteArray) : Fine (n + 1) (Rf.fileV r dir ch id y).2.2 := by
  unfold Rf.fileV
  split
  · exact h.filed _ _
  · exact h.more
theorem Fine.roomed (h : Fine n r) {m : Int} (hm : m ≤ 9223372036854775807) : Fine n { r with left := max m (-1) } := ⟨h.len, h.file, by simp only; omega⟩
theorem Alike.named {d : Dk.Disk} (h : Alike d r) (hn : Dk.Named d.files) : ∀ p ∈ r.files, p.1.size ≤ 1000000 := by
  intro p hp
  have h1 : Dk.get r.files p.1 ≠ none := mem_keys.1 (List.mem_map_of_mem hp)
  rw [h.get] at h1
  cases hg : Dk.get d.files p.1 with
  | none => exact absurd hg h1
  | some f => have := hn.old hg; omega
end Rf
def IntsR (w : World) (A : Option Addr) (n : Nat) (l : List Int) : Prop := Reads w w.heap.size 1 A n (l.map (Value.int .i64))
theorem IntsR.in_ {w : World} {A : Option Addr} {n k : Nat} {l : List Int} (h : IntsR w A n l) (hk : k < n) : ∃ ad, A = some ad ∧ ad.block < w.heap.size ∧ ∃ hl : k < l.length, w.cell? (ad.add k) = some (.int .i64 l[k]) := by
  have hlen : l.length = n := by have := h.1; simpa using this
  obtain ⟨ad, e, hb, hc⟩ := h.2 (by omega)
  exact ⟨ad, e, hb, by omega, hc k _ (by rw [List.getElem?_map, List.getElem?_eq_getElem (by omega)]; rfl)⟩
theorem Tu.chg_below {B g m : Nat} {w w1 w2 : World} (hb : Below B w w1) (hB : B ≤ w1.heap.size) (h : Tu B refT w1 w2) : Below B w w2 := hb.trans (h.to_below hB)
set_option maxRecDepth 100000 in
set_option maxHeartbeats 8000000 in
theorem files_any (hA : AliveOk) (dir ch y : ByteArray) (A : Option Addr) (n c : Nat) (ids : List Int) (room : Int) (hroom : -9223372036854775808 ≤ room ∧ room ≤ 9223372036854775807) (hids : ∀ i ∈ ids, -9223372036854775808 ≤ i ∧ i ≤ 9223372036854775807) (w : World) (hi : IntsR w A n ids) (hn : n ≤ 9223372036854775807) (hy0 : y.size ≤ 9223372036854775807) (hd0 : dir.size ≤ 140737488351232) (hc0 : ch.size ≤ 140737488351232) :
    Calls Tryz.prog 3 #[.string dir, .string ch, .slice A n c, .string y, .int .i64 room] w fun e w' => e = .returned (.bool true) ∧ Below w.heap.size w w' := by
  have HA := Lib.hid hA
  clear hA
  by_cases hbig : n > 20 ∨ y.size > 3000 ∨ dir.size + ch.size > 300
  · have KA := Lib.hid (HA.out w)
    have hcase : (20 < n) ∨ (¬ 20 < n ∧ 3000 < y.size) ∨ (¬ 20 < n ∧ ¬ 3000 < y.size ∧ 300 < dir.size + ch.size) := by omega
    clear hbig
    rcases hcase with h1 | ⟨h1, h2⟩ | ⟨h1, h2, h3⟩
    all_goals
      go_enter Tryz.func3, Tryz.ntmps3
      go_wp2_with fail
      refine KA.out.mono ?_
      rintro e w2 ⟨rfl, hb2⟩
      go_wp2_with fail
      go_ret
      exact ⟨rfl, hb2⟩
  have h1 : ¬ 20 < n := by omega
  have h2 : ¬ 3000 < y.size := by omega
  have h3 : ¬ 300 < dir.size + ch.size := by omega
  clear hbig
  have KN := Lib.hid (new_any w)
  have HI := Lib.hid hi
  have HIDS := Lib.hid hids
  clear hi hids
  go_enter Tryz.func3, Tryz.ntmps3
  go_wp2_with fail
  refine KN.out.mono ?_
  rintro e w1 ⟨g, m, rfl, hd1, hb1, hg, hm⟩
  have HD1 := Lib.hid hd1
  have HB1 := Lib.hid hb1
  have HG := Lib.hid hg
  have HM := Lib.hid hm
  have KR := Lib.hid (refNew_any w1 w.heap.size hb1.size)
  clear hd1 hb1 hg hm KN
  go_wp2_with fail
  refine KR.out.mono ?_
  rintro e w2 ⟨g2, rfl, hr2, hb2⟩
  have HD2 := Lib.hid (HD1.out.below hb2)
  have HR2 := Lib.hid hr2
  have HB2 := Lib.hid (bt'' HB1.out hb2)
  clear hr2 hb2 KR HD1 HB1
  go_wp2_with fail
  go_loopw [13] (fun vi wr => ∃ (i : Nat) (d : Dk.Disk) (r : Rf.Disk), vi = .int .i64 i ∧ i ≤ n ∧ DiskAt wr g m d ∧ Dk.Fine d ∧ RefAt wr w.heap.size g2 r ∧ Rf.Fine i r ∧ Rf.Alike d r ∧ Dk.Named d.files ∧ Below w.heap.size w wr) (fun vi _ => n - (intOf vi).toNat)
  case atStart => exact ⟨0, Dk.new, Rf.new, rfl, by omega, HD2.out, Dk.Fine.zero, HR2.out, ⟨Nat.le_refl _, (fun p hp => by cases hp), by decide⟩, Rf.Alike.new, (fun p hp => by cases hp), HB2.out⟩
  case round =>
    obtain ⟨i, d, r, rfl, hin, hd, hfd, hr, hfr, hal, hna, hbel⟩ := hrel
    have HD := Lib.hid hd
    have HFD := Lib.hid hfd
    have HR := Lib.hid hr
    have HFR := Lib.hid hfr
    have HAL := Lib.hid hal
    have HNA := Lib.hid hna
    have HBL := Lib.hid hbel
    clear hd hfd hr hfr hal hna hbel HD2 HR2 HB2
    by_cases hlt : i < n
    · go_upto_if 50 with fail
      go_cut [] (fun wx => ∃ (d : Dk.Disk) (r : Rf.Disk), DiskAt wx g m d ∧ Dk.Fine d ∧ RefAt wx w.heap.size g2 r ∧ Rf.Fine i r ∧ Rf.Alike d r ∧ Dk.Named d.files ∧ Below w.heap.size w wx)
      case first =>
        by_cases h2i : i = 2
        · have hq : ((i : Int) == 2) = true := by rw [h2i]; rfl
          have KM := Lib.hid (room_any _ HD.out room)
          clear h2i
          go_wp2_with fail
          refine KM.out.mono ?_
          rintro e w3 ⟨rfl, hd3, hc3⟩
          have HR3 := Lib.hid (HR.out.chg HD.out hc3)
          have HD3 := Lib.hid hd3
          have HB3 := Lib.hid (Chg.to_below HBL.out hc3 HG.out HM.out HBL.out.size)
          have KM2 := Lib.hid (refRoom_any w3 HR3.out room)
          clear hd3 hc3 KM
          go_wp2_with fail
          refine KM2.out.mono ?_
          rintro e w4 ⟨rfl, hr4, ht4⟩
          have HR4 := Lib.hid hr4
          have HD4 := Lib.hid (HD3.out.tu ht4)
          have HB4 := Lib.hid (Tu.chg_below (g := g) (m := m) HB3.out HB3.out.size ht4)
          clear hr4 ht4 KM2
          go_wp2_with fail
          go_meet
          exact ⟨_, _, HD4.out, HFD.out.roomed hroom.2, HR4.out, HFR.out.roomed hroom.2, HAL.out.roomed room, HNA.out, HB4.out⟩
        · have hq : ((i : Int) == 2) = false := by rw [beq_eq_false_iff_ne]; omega
          clear h2i
          go_wp2_with fail
          go_meet
          exact ⟨d, r, HD.out, HFD.out, HR.out, HFR.out, HAL.out, HNA.out, HBL.out⟩
      case rest =>
        obtain ⟨d', r', hd, hfd, hr, hfr, hal, hna, hbel⟩ := hcut
        clear HD HFD HR HFR HAL HNA HBL
        obtain ⟨ad, rfl, hblk, hil, hcell⟩ := HI.out.in_ hlt
        have hcell' := (hbel.cell (p := ad.add i) (by rw [block_of_add]; exact hblk)).trans hcell
        have hidb := HIDS.out _ (List.getElem_mem hil)
        generalize ids[i] = id at *
        obtain ⟨e1, e2, hal2⟩ := hal.fileV dir ch id y
        have K1 := file_any _ hd hfd dir ch y id hidb.1 hidb.2 (by omega) (by omega)
        have HFD2 := Lib.hid (hfd.fileV dir ch id y)
        have HFR2 := Lib.hid (hfr.fileV dir ch id y)
        have HNA2 := Lib.hid (Dk.named_fileV (y := y) hal.fuse hna dir ch id)
        have HAL2 := Lib.hid hal2
        have HD := Lib.hid hd
        have HR := Lib.hid hr
        have HFR := Lib.hid hfr
        have HBL := Lib.hid hbel
        have E1 := Lib.hid e1
        have E2 := Lib.hid e2
        generalize hdv : Dk.fileV d' dir ch id y = dv at *
        obtain ⟨xs, xe, xd⟩ := dv
        simp only at K1 HFD2 HNA2 HAL2 E1 E2
        have KK := Lib.hid K1
        have hib : i < 20 := by omega
        have HIDB := Lib.hid hidb
        clear hd hfd hr hfr hal hna hbel e1 e2 hal2 K1 hdv hcell hidb
        go_wp2_with fail
        refine KK.out.mono ?_
        rintro e w3 ⟨rfl, hd3, hc3⟩
        have HR3 := Lib.hid (HR.out.chg HD.out hc3)
        have HD3 := Lib.hid hd3
        have HB3 := Lib.hid (Chg.to_below HBL.out hc3 HG.out HM.out HBL.out.size)
        have K2 := refFile_any w3 HR3.out HB3.out.size HFR.out (by omega) dir ch y id HIDB.out.1 HIDB.out.2 (by omega) (by omega)
        rw [← E1.out, ← E2.out] at K2
        have KK2 := Lib.hid K2
        have hcell3 := (HB3.out.cell (p := ad.add i) (by rw [block_of_add]; exact hblk)).trans ((HBL.out.cell (p := ad.add i) (by rw [block_of_add]; exact hblk)).symm.trans hcell')
        clear hd3 hc3 KK K2 hcell'
        go_wp2_with fail
        refine KK2.out.mono ?_
        rintro e w4 ⟨rfl, hr4, ht4⟩
        have HR4 := Lib.hid hr4
        have HD4 := Lib.hid (HD3.out.tu ht4)
        have HB4 := Lib.hid (Tu.chg_below (g := g) (m := m) HB3.out HB3.out.size ht4)
        have hss : (xs.toList == xs.toList) = true := by simp
        have hee : (xe != xe) = false := by simp
        clear hr4 ht4 KK2 hcell3
        go_wp2_with fail
        go_roundw
        case rel => exact ⟨i + 1, _, _, by go_num, by omega, HD4.out, HFD2.out, HR4.out, HFR2.out, HAL2.out, HNA2.out, HB4.out⟩
        case measure => simp [intOf]; omega
    · have KL := Lib.hid (list_any _ HD.out HFD.out (fun q hq => by have := HNA.out q hq; omega) ⟨#[]⟩)
      have HAL2 := Lib.hid HAL.out
      go_wp2_with fail
      refine KL.out.mono ?_
      rintro e w3 ⟨hb3, A3, n3, c3, l, rfl, hst, hl, _, hon⟩
      have hli := hon HAL.out.on
      have HB3 := Lib.hid (HBL.out.trans (hb3.mono HBL.out.size))
      have HD3 := Lib.hid (HD.out.below hb3)
      have HR3 := Lib.hid (HR.out.below hb3)
      have HS3 := Lib.hid hst
      have hpl : l.Perm (Dk.keys d.files) ∧ l.Pairwise (fun a b => Rf.le a b = true) := by
        obtain ⟨xs, p1, p2, rfl⟩ := hli
        have hf : (xs.filter fun x => Lib.hasPrefix x.data.toList (⟨#[]⟩ : ByteArray).data.toList) = xs := by
          rw [List.filter_eq_self]
          intro a _
          cases a.data.toList <;> rfl
        rw [hf]
        refine ⟨p1, p2.imp fun {a b} h => ?_⟩
        unfold Rf.le
        exact decide_eq_true h
      have HPL := Lib.hid hpl
      have hl20 : l.length ≤ 1000 := by
        have h5 := hpl.1.length_eq
        have h6 := HAL.out.len
        have h7 := HFR.out.len
        simp [Dk.keys] at h5
        omega
      have hn3 : n3 ≤ 1000 := by omega
      have HLN := Lib.hid hl
      have KL2 := Lib.hid (refList_any w3 HR3.out (by have := HFR.out.len; omega) HAL.out.nr (HAL.out.named HNA.out))
      clear hb3 hst hl hon hli hpl KL HD HR HBL
      go_wp2_with fail
      refine KL2.out.mono ?_
      rintro e w4 ⟨v, rr, rfl, ho, hp, hs, hb4⟩
      have hlr : l = rr := Rf.sorted_eq (HPL.out.1.trans (HAL.out.perm.symm.trans hp.symm)) HPL.out.2 hs
      obtain ⟨A4, c4, rfl, -, -, -, hst4⟩ := ho.form
      have HS4 := Lib.hid ((HS3.out.below hb4).more hb4.size)
      have HSR := Lib.hid hst4
      have HB4 := Lib.hid (HB3.out.trans (hb4.mono HB3.out.size))
      have HD4 := Lib.hid (HD3.out.below hb4)
      have HR4 := Lib.hid (HR3.out.below hb4)
      have KS := sameTexts_any w4 A3 n3 c3 l A4 rr.length c4 rr HS4.out HSR.out (by omega)
      rw [decide_eq_true hlr] at KS
      have KSh := Lib.hid KS
      clear ho hp hs hb4 hst4 KS KL2 HB3 HD3 HR3 HS3 hlr
      go_wp2_with fail
      refine KSh.out.mono ?_
      rintro e w5 ⟨rfl, hb5⟩
      have HS5 := Lib.hid ((HS4.out.below hb5).more hb5.size)
      have HB5 := Lib.hid (HB4.out.trans (hb5.mono HB4.out.size))
      have HD5 := Lib.hid (HD4.out.below hb5)
      have HR5 := Lib.hid (HR4.out.below hb5)
      have HLS := Lib.hid (show ∀ s ∈ l, s.size ≤ 64 from fun s hs => by
        obtain ⟨p, hp, rfl⟩ := List.mem_map.1 (HPL.out.1.subset hs)
        exact HNA.out p hp)
      clear hb5 KSh HB4 HD4 HR4 HS4 HSR
      go_wp2_with fail
      go_loopw [19] (fun vi wr => ∃ k : Nat, vi = .int .i64 k ∧ k ≤ n3 ∧ DiskAt wr g m d ∧ RefAt wr w.heap.size g2 r ∧ StrsAt wr wr.heap.size A3 n3 l ∧ Below w.heap.size w wr) (fun vi _ => n3 - (intOf vi).toNat)
      case atStart => exact ⟨0, rfl, by omega, HD5.out, HR5.out, HS5.out, HB5.out⟩
      case round =>
        obtain ⟨k, rfl, hkn, hd, hr, hs, hbel⟩ := hrel
        have HD := Lib.hid hd
        have HR := Lib.hid hr
        have HS := Lib.hid hs
        have HBL := Lib.hid hbel
        clear hd hr hs hbel HD5 HR5 HS5 HB5
        by_cases hlt : k < n3
        · obtain ⟨ad3, s, rfl, hblk, hls, hcell⟩ := HS.out.in_ hlt
          have hsz := HLS.out s (List.mem_of_getElem? hls)
          have K1 := Lib.hid (read_any _ HD.out s (by omega))
          have HRD := Lib.hid (HAL.out.read s)
          have HSZ := Lib.hid hsz
          have hblk' := hblk
          rw [← block_of_add ad3 k] at hblk'
          generalize Dk.read d s = rd at *
          obtain ⟨rs, re⟩ := rd
          simp only at K1
          clear hls hsz
          go_wp2_with fail
          refine K1.out.mono ?_
          rintro e w6 ⟨rfl, hb6⟩
          have HD6 := Lib.hid (HD.out.below hb6)
          have HR6 := Lib.hid (HR.out.below hb6)
          have HS6 := Lib.hid ((HS.out.below hb6).more hb6.size)
          have HB6 := Lib.hid (HBL.out.trans (hb6.mono HBL.out.size))
          have hcell6 := (hb6.cell hblk').trans hcell
          have K2 := refRead_any w6 HR6.out (by have := HFR.out.len; omega) s (by have := HSZ.out; omega)
          rw [← HRD.out] at K2
          have K2h := Lib.hid K2
          have hss : (rs.toList == rs.toList) = true := by simp
          clear hb6 K1 K2 hcell
          go_wp2_with fail
          refine K2h.out.mono ?_
          rintro e w7 ⟨rfl, rfl⟩
          go_wp2_with fail
          go_roundw
          case rel => exact ⟨k + 1, by go_num, by omega, HD6.out, HR6.out, HS6.out, HB6.out⟩
          case measure => simp [intOf]; omega
        · go_wp2_with fail
          refine (HA.out _).mono ?_
          rintro e w8 ⟨rfl, hb8⟩
          have HB8 := Lib.hid (HBL.out.trans (hb8.mono HBL.out.size))
          go_wp2_with fail
          go_ret
          exact ⟨rfl, HB8.out⟩
end Go.Proofs.YtlbdpcokddpjpaaGreatDoor
