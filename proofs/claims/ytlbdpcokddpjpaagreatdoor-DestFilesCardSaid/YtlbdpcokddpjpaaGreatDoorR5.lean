/- Parts, joined. -/
import Derived.Test.YtlbdpcokddpjpaaGreatDoorR4
/- The reference's List, all names; caduceusbook.SameTexts. -/
namespace Go.Proofs.YtlbdpcokddpjpaaGreatDoor
set_option linter.unusedVariables false
open Go Go.RowKit Go.BigFrame
set_option maxRecDepth 100000 in
set_option maxHeartbeats 2000000 in
theorem refList_any (w : World) {B g : Nat} {r : Rf.Disk} (h : RefAt w B g r) (hn : r.files.length ≤ 10000) (hnd : (Dk.keys r.files).Nodup) (hsz : ∀ p ∈ r.files, p.1.size ≤ 1000000) :
    Calls Tryz.prog 14 #[.pointer (some ⟨g, 0, none⟩), .string ⟨#[]⟩] w fun e w' => ∃ v rr, e = .returned v ∧ OwnT w' w.heap.size v rr ∧ rr.Perm (Dk.keys r.files) ∧ rr.Pairwise (fun a b => Rf.le a b = true) ∧ Below w.heap.size w w' := by
  have HR := Lib.hid h
  have HND := Lib.hid hnd
  have HSZ := Lib.hid hsz
  obtain ⟨h0, v, off, cut, flip, acts, hk, rfl, hl⟩ := h
  obtain ⟨A, cap, rfl⟩ := hl.form
  have HK := Lib.hid hk
  have HL := Lib.hid hl
  have O0 := Lib.hid (OwnT.none_ w w.heap.size)
  have HKL := Lib.hid (show (Dk.keys r.files).length = r.files.length from by simp [Dk.keys])
  clear hk hl hnd hsz
  go_enter Tryz.func14, Tryz.ntmps14
  go_wp2_with fail
  go_loopw [5, 6] (fun vo vi wr => ∃ (i : Nat) (o : List ByteArray), vi = .int .i64 i ∧ i ≤ r.files.length ∧ OwnT wr w.heap.size vo o ∧ o = (Dk.keys r.files).take i ∧ Below w.heap.size w wr) (fun _ vi _ => r.files.length - (intOf vi).toNat)
  case atStart => exact ⟨0, [], rfl, by omega, O0.out, rfl, Below.refl _ _⟩
  case round =>
    obtain ⟨i, o, rfl, hi, ho, hoe, hbel⟩ := hrel
    have HO := Lib.hid ho
    have HBL := Lib.hid hbel
    have HOE := Lib.hid hoe
    obtain ⟨Ao, co, rfl, hco1, hco2, hao, hso⟩ := ho.form
    have hol : o.length = i := by rw [hoe, List.length_take, HKL.out]; omega
    have c := fun i => (HK.out.below hbel HK.out.lt).cell i
    clear ho hoe hbel
    by_cases hlt : i < r.files.length
    · obtain ⟨b, cap', e, hBb, hb, c0, -, -, -, hcap⟩ := HL.out.in_ (List.getElem?_eq_getElem hlt)
      cases e
      have HSZi := Lib.hid (HSZ.out _ (List.getElem_mem hlt))
      have HPI := Lib.hid (show (Dk.keys r.files).take (i + 1) = o ++ [(r.files[i]'hlt).1] from by
        rw [HOE.out, List.take_add_one, Dk.keys, List.getElem?_map, List.getElem?_eq_getElem hlt]
        rfl)
      generalize r.files[i].1 = nm at *
      have c0' := (HBL.out.cell (p := ⟨b, i * 3, none⟩) hb).trans c0
      have KB := Lib.hid (fun W : World => refBegins_any nm W HSZi.out)
      have hdr : w.heap.size ≤ wr.heap.size := HBL.out.size
      have HOL := Lib.hid hol
      have hib : i < 10000 := by omega
      obtain ⟨v8, w8, hr8, ho8, hb8, -⟩ := t_append (wr.alloc (.cells #[.string nm] 9)) 33 w.heap.size (.slice Ao o.length co) o (HO.out.below ((Below.refl _ _).alloc (Nat.le_refl _) _)) ⟨wr.heap.size, 0, none⟩ 1 1 [nm] rfl (fun q u hu => by
        rw [Addr.add_lit, Nat.zero_add, (Blk.new wr _ _).cell]
        simpa using hu) (by omega) (by simp; omega)
      have HO8 := Lib.hid ho8
      have HB8 := Lib.hid (show Below w.heap.size w w8 from (HBL.out.alloc HBL.out.size _).trans hb8)
      obtain ⟨A8, c8, e8, -, -, -, -⟩ := ho8.form
      generalize hl8 : (o ++ [nm]).length = l8 at e8
      subst e8
      clear ho8 hb8 hol hso hao c0
      go_wp2_with fail
      refine (KB.out wr).mono ?_
      rintro e w2 ⟨rfl, rfl⟩
      go_wp2_with (first
        | (refine wpList_appendD (v1 := .slice Ao o.length co) (vx := .slice (some ⟨w2.heap.size, 0, none⟩) 1 1) rfl (.tmp 33) (.tmp 42) 33 rfl rfl rfl hr8 ?_)
        | fail)
      go_roundw
      case rel => exact ⟨i + 1, o ++ [nm], by go_num, by omega, HO8.out, HPI.out.symm, HB8.out⟩
      case measure => simp [intOf]; omega
    · obtain rfl : i = r.files.length := by omega
      have HOE2 := Lib.hid (show o = Dk.keys r.files from by rw [HOE.out, List.take_of_length_le (by rw [HKL.out]; omega)])
      have KS := Lib.hid (refSorted_n o.length o wr Ao co rfl (by
          rcases HO.out.2 with ⟨h1, _⟩ | ⟨b', cap', cur, hv, _⟩
          · injection h1 with h1; exact .inl h1
          · injection hv with hv; exact .inr ⟨_, _, hv⟩) hso hco1 hco2 hao (by rw [HOE2.out]; exact HND.out) (fun s hs => by
          rw [HOE2.out] at hs
          obtain ⟨p, hp, rfl⟩ := List.mem_map.1 hs
          have := HSZ.out p hp
          unfold maxLen
          omega) (by omega))
      have HHD := Lib.hid HBL.out.size
      clear hol hso hao
      go_wp2_with fail
      refine KS.out.mono ?_
      rintro e w2 ⟨v, rr, rfl, h1, h2, h3, h4⟩
      have H1 := Lib.hid (h1.less HHD.out)
      have H2 := Lib.hid h2
      have H3 := Lib.hid h3
      have H4 := Lib.hid (HBL.out.trans (h4.mono HHD.out))
      clear h1 h2 h3 h4
      go_wp2_with fail
      go_ret
      exact ⟨v, rr, rfl, H1.out, HOE2.out ▸ H2.out, H3.out, H4.out⟩
set_option maxRecDepth 100000 in
set_option maxHeartbeats 2000000 in
theorem sameTexts_any (w : World) (A : Option Addr) (n c : Nat) (la : List ByteArray) (B : Option Addr) (m d : Nat) (lb : List ByteArray) (ha : StrsAt w w.heap.size A n la) (hb : StrsAt w w.heap.size B m lb) (hn : n ≤ 100000) :
    Calls Tryz.prog 13 #[.slice A n c, .slice B m d] w fun e w' => e = .returned (.bool (decide (la = lb))) ∧ Below w.heap.size w w' := by
  have HA := Lib.hid ha
  have HB := Lib.hid hb
  have hla := ha.len
  have hlb := hb.len
  obtain ⟨q, hq⟩ : ∃ q, q = decide (la = lb) := ⟨_, rfl⟩
  rw [← hq]
  have HQ := Lib.hid hq
  clear ha hb hq
  by_cases hnm : n = m
  · subst hnm
    have HLA := Lib.hid hla
    have HLB := Lib.hid hlb
    clear hla hlb
    go_enter Tryz.func13, Tryz.ntmps13
    go_wp2_with fail
    go_loopw [5] (fun v wr => ∃ k : Nat, k ≤ n ∧ v = .int .i64 k ∧ la.take k = lb.take k ∧ Below w.heap.size w wr) (fun v _ => n - (intOf v).toNat)
    case atStart => exact ⟨0, by omega, rfl, by simp, Below.refl _ _⟩
    case round =>
      obtain ⟨k, hk, rfl, hsame, hbel⟩ := hrel
      have HS := Lib.hid hsame
      have HBL := Lib.hid hbel
      clear hsame
      by_cases hlt : k < n
      · obtain ⟨ada, sa, rfl, hba, hsa, hca⟩ := (HA.out.below hbel).in_ hlt
        obtain ⟨adb, sb, rfl, hbb, hsb, hcb⟩ := (HB.out.below hbel).in_ hlt
        have HSA := Lib.hid hsa
        have HSB := Lib.hid hsb
        have hba' : (ada.add k).block < wr.heap.size := by rw [block_of_add]; exact Nat.lt_of_lt_of_le hba hbel.size
        have hbb' : (adb.add k).block < wr.heap.size := by rw [block_of_add]; exact Nat.lt_of_lt_of_le hbb hbel.size
        have hkb : k < 100000 := by omega
        clear hsa hsb hbel
        go_wp2_with fail
        refine wp_region_free 10 [] Stays (fun _ => none) (by kernel_rfl) (by kernel_rfl) Stays.refl (by simp) (Stays.draw _) Stays.trans (fun j φ v x y hB => by cases hB) ?_
        apply wpFree_pure rfl rfl
        · intro vs wx hk K hK
          go_simp
          exact hK _ (Stays.refl _)
        intro KK hKK
        go_simp
        refine hKK _ ?_
        clear hKK KK
        apply wpFree_pure rfl rfl
        · intro vs wx hk K hK
          go_simp
          exact hK _ (Stays.refl _)
        intro KK hKK
        go_simp
        refine hKK _ ?_
        clear hKK KK
        apply wpFree_pure rfl rfl
        · intro vs wx hk K hK
          go_simp
          exact hK _ (Stays.refl _)
        intro KK hKK
        go_simp
        refine hKK _ ?_
        clear hKK KK
        apply wpFree_pure rfl rfl
        · intro vs wx hk K hK
          have hx := (hk.1.cell hba').trans hca
          go_simp
          exact hK _ (Stays.refl _)
        intro KK hKK
        go_simp
        refine hKK _ ?_
        clear hKK KK
        apply wpFree_pure rfl rfl
        · intro vs wx hk K hK
          go_simp
          exact hK _ (Stays.refl _)
        intro KK hKK
        go_simp
        refine hKK _ ?_
        clear hKK KK
        apply wpFree_pure rfl rfl
        · intro vs wx hk K hK
          go_simp
          exact hK _ (Stays.refl _)
        intro KK hKK
        go_simp
        refine hKK _ ?_
        clear hKK KK
        apply wpFree_pure rfl rfl
        · intro vs wx hk K hK
          go_simp
          exact hK _ (Stays.refl _)
        intro KK hKK
        go_simp
        refine hKK _ ?_
        clear hKK KK
        apply wpFree_pure rfl rfl
        · intro vs wx hk K hK
          have hx := (hk.1.cell hbb').trans hcb
          go_simp
          exact hK _ (Stays.refl _)
        intro KK hKK
        go_simp
        refine hKK _ ?_
        clear hKK KK
        apply wpFree_pure rfl rfl
        · intro vs wx hk K hK
          go_simp
          exact hK _ (Stays.refl _)
        intro KK hKK
        go_simp
        refine hKK _ ?_
        clear hKK KK
        apply wpFree_pure rfl rfl
        · intro vs wx hk K hK
          go_simp
          exact hK _ (Stays.refl _)
        intro KK hKK
        go_simp
        refine hKK _ ?_
        clear hKK KK
        refine wpFree_nil ?_
        intro vs wx hsx _
        have HX := Lib.hid (HBL.out.trans (Below.mono hsx HBL.out.size))
        intro KK hKK
        simp only [List.drop_succ_cons, List.drop_zero]
        cases hq2 : (sa.toList == sb.toList) with
        | true =>
          have he : sa = sb := by rw [toList_beq] at hq2; exact of_decide_eq_true hq2
          have HT := Lib.hid (show la.take (k + 1) = lb.take (k + 1) from by rw [List.take_add_one, List.take_add_one, HS.out, HSA.out, HSB.out, he])
          clear he
          go_wp2_with fail
          go_roundw
          case rel => exact ⟨k + 1, by omega, by go_num, HT.out, HX.out⟩
          case measure => simp [intOf]; omega
        | false =>
          have he : sa ≠ sb := by rw [toList_beq] at hq2; exact of_decide_eq_false hq2
          have HF := Lib.hid (show q = false from by
            rw [HQ.out]
            refine decide_eq_false (fun e => he ?_)
            have h1 := HSA.out
            rw [e, HSB.out] at h1
            injection h1 with h1
            exact h1.symm)
          clear he
          go_wp2_with fail
          go_ret
          rw [HF.out]
          exact ⟨rfl, HX.out⟩
      · obtain rfl : k = n := by omega
        have HT := Lib.hid (show q = true from by
          rw [HQ.out]
          refine decide_eq_true ?_
          have h1 := HS.out
          rw [List.take_of_length_le (by rw [HLA.out]; omega), List.take_of_length_le (by rw [HLB.out]; omega)] at h1
          exact h1)
        go_wp2_with fail
        go_ret
        rw [HT.out]
        exact ⟨rfl, HBL.out⟩
  · have hne : ((n : Int) != (m : Int)) = true := by rw [bne_iff_ne]; omega
    have HF := Lib.hid (show q = false from by
      rw [HQ.out]
      exact decide_eq_false (fun e => hnm (by rw [← hla, ← hlb, e])))
    clear hnm
    go_enter Tryz.func13, Tryz.ntmps13
    go_wp2_with fail
    go_ret
    rw [HF.out]
    exact ⟨rfl, Below.refl _ _⟩
end Go.Proofs.YtlbdpcokddpjpaaGreatDoor

/- The two disks alike: the program's and the reference's. Plain. -/
namespace Go.Proofs.YtlbdpcokddpjpaaGreatDoor
set_option linter.unusedVariables false
open Go Go.RowKit
namespace Rf
/-- The two disks hold the same. -/
structure Alike (d : Dk.Disk) (r : Disk) : Prop where
  on : d.on = true
  fuse : d.fuse = none
  room : d.room = r.left
  nd : (Dk.keys d.files).Nodup
  nr : (Dk.keys r.files).Nodup
  get : ∀ x, Dk.get r.files x = Dk.get d.files x
theorem Alike.new : Alike Dk.new Rf.new := ⟨rfl, rfl, rfl, List.nodup_nil, List.nodup_nil, fun _ => rfl⟩
theorem mem_keys {l : List Fl} {x : ByteArray} : x ∈ Dk.keys l ↔ Dk.get l x ≠ none := by
  constructor
  · intro h e
    obtain ⟨p, hp, rfl⟩ := List.mem_map.1 h
    exact Dk.get_none.1 e p hp rfl
  · intro h
    cases e : Dk.get l x with
    | none => exact absurd e h
    | some f => exact List.mem_map.2 ⟨_, Dk.get_mem e, rfl⟩
theorem Alike.perm {d : Dk.Disk} {r : Disk} (h : Alike d r) : (Dk.keys r.files).Perm (Dk.keys d.files) :=
  (List.perm_ext_iff_of_nodup h.nr h.nd).2 fun x => by rw [mem_keys, mem_keys, h.get]
theorem Alike.len {d : Dk.Disk} {r : Disk} (h : Alike d r) : r.files.length = d.files.length := by
  have := h.perm.length_eq
  simpa [Dk.keys] using this
theorem keys_updAt {l : List Fl} {x : ByteArray} {f f' : Dk.File} (hg : Dk.get l x = some f) : Dk.keys (updAt l x (x, f')) = Dk.keys l := by
  rcases idx_cases l x with ⟨e1, e2⟩ | ⟨k, g, e1, e2, e3⟩
  · rw [hg] at e2; cases e2
  · rw [updAt_of e1]
    unfold Dk.keys
    rw [List.map_set]
    apply List.ext_getElem?
    intro j
    rw [List.getElem?_set]
    split
    · rename_i hkj
      subst hkj
      rw [List.getElem?_map, e2]
      simp
      exact (List.getElem?_eq_some_iff.1 e2).1
    · rfl
theorem get_set_ne {l : List Fl} {k : Nat} {p q : Fl} {y : ByteArray} (hk : l[k]? = some p) (hp : p.1 ≠ y) (hq : q.1 ≠ y) : Dk.get (l.set k q) y = Dk.get l y := by
  induction l generalizing k with
  | nil => simp at hk
  | cons c l ih =>
    cases k with
    | zero =>
      simp only [List.getElem?_cons_zero, Option.some.injEq] at hk
      subst hk
      rw [List.set_cons_zero, Dk.get_cons, Dk.get_cons, if_neg hp, if_neg hq]
    | succ k =>
      rw [List.set_cons_succ, Dk.get_cons, Dk.get_cons, ih (by simpa using hk)]
theorem get_at_set {l : List Fl} (hn : (Dk.keys l).Nodup) {k : Nat} (hk : k < l.length) (x : ByteArray) (f : Dk.File) (hnd : (Dk.keys (l.set k (x, f))).Nodup) : Dk.get (l.set k (x, f)) x = some f :=
  Dk.get_at hnd (j := k) (by rw [List.getElem?_set_self hk])
theorem get_updAt {l : List Fl} (hn : (Dk.keys l).Nodup) {x y : ByteArray} {f f' : Dk.File} (hg : Dk.get l x = some f) : Dk.get (updAt l x (x, f')) y = if y = x then some f' else Dk.get l y := by
  have hk := keys_updAt (f' := f') hg
  rcases idx_cases l x with ⟨e1, e2⟩ | ⟨k, g, e1, e2, e3⟩
  · rw [hg] at e2; cases e2
  · rw [updAt_of e1] at hk ⊢
    split
    · rename_i hy
      subst hy
      exact get_at_set hn (List.getElem?_eq_some_iff.1 e2).1 _ _ (by rw [hk]; exact hn)
    · rename_i hy
      exact get_set_ne e2 (fun e => hy e.symm) (fun e => hy e.symm)
theorem get_erase {l : List Fl} (hn : (Dk.keys l).Nodup) {x y : ByteArray} : Dk.get (erase l x) y = if y = x then none else Dk.get l y := by
  split
  · rename_i hy
    subst hy
    rcases idx_cases l y with ⟨e1, e2⟩ | ⟨k, f, e1, e2, e3⟩
    · rw [erase_none e1, e2]
    · rw [erase_of e1, Dk.get_none]
      intro p hp
      obtain ⟨j, hj⟩ := List.getElem?_of_mem hp
      intro he
      have hk := (List.getElem?_eq_some_iff.1 e2).1
      have hkeys : (Dk.keys l)[k]? = some y := by unfold Dk.keys; rw [List.getElem?_map, e2]; rfl
      rw [List.getElem?_eraseIdx] at hj
      split at hj
      · rename_i hlt
        have hj2 : (Dk.keys l)[j]? = some y := by unfold Dk.keys; rw [List.getElem?_map, hj]; simp [he]
        have := (List.getElem?_inj (by simpa [Dk.keys] using Nat.lt_trans hlt hk) hn).1 (hj2.trans hkeys.symm)
        omega
      · rename_i hlt
        have hj1 : j + 1 < l.length := (List.getElem?_eq_some_iff.1 hj).1
        have hj2 : (Dk.keys l)[j + 1]? = some y := by unfold Dk.keys; rw [List.getElem?_map, hj]; simp [he]
        have := (List.getElem?_inj (by simpa [Dk.keys] using hj1) hn).1 (hj2.trans hkeys.symm)
        omega
  · rename_i hy
    exact get_erase_ne hy
theorem nodup_erase {l : List Fl} (hn : (Dk.keys l).Nodup) (x : ByteArray) : (Dk.keys (erase l x)).Nodup := by
  unfold erase
  split
  · exact hn
  · exact hn.sublist ((List.eraseIdx_sublist _ _).map _)
theorem act_none {d : Dk.Disk} {F : Dk.Disk → Dk.Disk} (h : d.fuse = none) : Dk.act d F = (0, F d) := by unfold Dk.act; rw [h]
theorem put_new {l : List Fl} {x : ByteArray} {f : Dk.File} (h : Dk.get l x = none) : Dk.put l x f = l ++ [(x, f)] := by unfold Dk.put; rw [h]; rfl
variable {d : Dk.Disk} {r : Disk}
theorem Alike.create (h : Alike d r) (x : ByteArray) : (Dk.create d x).1 = (create r x).1 ∧ Alike (Dk.create d x).2 (create r x).2 := by
  unfold Dk.create Rf.create
  rw [h.on, h.get x, h.len, h.room]
  split
  · exact ⟨rfl, h⟩
  · split
    · exact ⟨rfl, h⟩
    · rename_i hg
      split
      · exact ⟨rfl, h⟩
      · rw [act_none h.fuse]
        have hg0 : Dk.get d.files x = none := by simpa using hg
        have hr0 : Dk.get r.files x = none := (h.get x).trans hg0
        refine ⟨rfl, h.on, h.fuse, h.room, Dk.nodup_put h.nd, ?_, fun y => ?_⟩
        · simp only
          rw [← put_new hr0]
          exact Dk.nodup_put h.nr
        · simp only
          rw [← put_new hr0, Dk.get_put, Dk.get_put, h.get]
theorem Alike.append (h : Alike d r) (x y : ByteArray) : (Dk.append d x y).1 = (append r x y).1 ∧ Alike (Dk.append d x y).2 (append r x y).2 := by
  unfold Dk.append Rf.append
  rw [h.on, h.get x]
  split
  · exact ⟨rfl, h⟩
  · cases hg : Dk.get d.files x with
    | none => exact ⟨rfl, h⟩
    | some f =>
      simp only
      rw [h.room]
      split
      · exact ⟨rfl, h⟩
      · split
        · exact ⟨rfl, h⟩
        · rw [act_none h.fuse]
          have hr : Dk.get r.files x = some f := (h.get x).trans hg
          refine ⟨rfl, h.on, h.fuse, ?_, Dk.nodup_put h.nd, ?_, fun z => ?_⟩
          · simp only [h.room]
          · simp only
            rw [keys_updAt hr]
            exact h.nr
          · simp only
            rw [get_updAt h.nr hr, Dk.get_put, h.get]
theorem Alike.sync (h : Alike d r) (x : ByteArray) : (Dk.sync d x).1 = (sync r x).1 ∧ Alike (Dk.sync d x).2 (sync r x).2 := by
  unfold Dk.sync Rf.sync
  rw [h.on, h.get x]
  split
  · exact ⟨rfl, h⟩
  · cases hg : Dk.get d.files x with
    | none => exact ⟨rfl, h⟩
    | some f =>
      simp only
      rw [act_none h.fuse]
      have hr : Dk.get r.files x = some f := (h.get x).trans hg
      refine ⟨rfl, h.on, h.fuse, h.room, Dk.nodup_put h.nd, ?_, fun z => ?_⟩
      · simp only
        rw [keys_updAt hr]
        exact h.nr
      · simp only
        rw [get_updAt h.nr hr, Dk.get_put, h.get]
theorem Alike.remove (h : Alike d r) (x : ByteArray) : (Dk.remove d x).1 = (remove r x).1 ∧ Alike (Dk.remove d x).2 (remove r x).2 := by
  unfold Dk.remove Rf.remove
  rw [h.on, h.get x]
  split
  · exact ⟨rfl, h⟩
  · cases hg : Dk.get d.files x with
    | none => exact ⟨rfl, h⟩
    | some f =>
      simp only
      rw [act_none h.fuse]
      refine ⟨rfl, h.on, h.fuse, h.room, Dk.nodup_del h.nd, nodup_erase h.nr x, fun z => ?_⟩
      simp only
      rw [get_erase h.nr, Dk.get_del, h.get]
theorem nodup_set {α : Type} {l : List α} {k : Nat} {y : α} (hn : l.Nodup) (h : ∀ j, j ≠ k → l[j]? ≠ some y) : (l.set k y).Nodup := by
  induction l generalizing k with
  | nil => simp
  | cons a l ih =>
    cases k with
    | zero =>
      rw [List.set_cons_zero, List.nodup_cons]
      refine ⟨fun hm => ?_, (List.nodup_cons.1 hn).2⟩
      obtain ⟨j, hj⟩ := List.getElem?_of_mem hm
      exact h (j + 1) (by omega) (by simpa using hj)
    | succ k =>
      rw [List.set_cons_succ, List.nodup_cons]
      refine ⟨fun hm => ?_, ih (List.nodup_cons.1 hn).2 (fun j hj => by have := h (j + 1) (by omega); simpa using this)⟩
      rcases List.mem_or_eq_of_mem_set hm with hm | hm
      · exact (List.nodup_cons.1 hn).1 hm
      · exact h 0 (by omega) (by rw [hm]; rfl)
theorem ren_ok {l : List Fl} (hn : (Dk.keys l).Nodup) {x y : ByteArray} {f : Dk.File} (hg : Dk.get l x = some f) : (Dk.keys (ren l x y f)).Nodup ∧ ∀ z, Dk.get (ren l x y f) z = if z = y then some f else if z = x then none else Dk.get l z := by
  unfold ren
  by_cases hxy : x = y
  · subst hxy
    rw [if_neg (by simp)]
    refine ⟨by rw [keys_updAt hg]; exact hn, fun z => ?_⟩
    rw [get_updAt hn hg]
    split
    · rfl
    · rfl
  · rw [if_pos hxy]
    have hn1 := nodup_erase hn y
    have hg1 : Dk.get (erase l y) x = some f := by rw [get_erase hn, if_neg hxy, hg]
    have hy1 : Dk.get (erase l y) y = none := by rw [get_erase hn, if_pos rfl]
    have hz1 : ∀ z, z ≠ y → Dk.get (erase l y) z = Dk.get l z := fun z hz => by rw [get_erase hn, if_neg hz]
    generalize erase l y = L at *
    rcases idx_cases L x with ⟨e1, e2⟩ | ⟨k, g, e1, e2, e3⟩
    · rw [hg1] at e2; cases e2
    · rw [updAt_of e1]
      have hk := (List.getElem?_eq_some_iff.1 e2).1
      have hkeys : Dk.keys (L.set k (y, f)) = (Dk.keys L).set k y := by unfold Dk.keys; rw [List.map_set]
      have hnd : (Dk.keys (L.set k (y, f))).Nodup := by
        rw [hkeys]
        refine nodup_set hn1 (fun j _ hj => ?_)
        have : y ∈ Dk.keys L := List.mem_of_getElem? hj
        exact mem_keys.1 this hy1
      refine ⟨hnd, fun z => ?_⟩
      by_cases hzy : z = y
      · subst hzy
        rw [if_pos rfl]
        exact get_at_set hn1 hk _ _ hnd
      · rw [if_neg hzy]
        by_cases hzx : z = x
        · subst hzx
          rw [if_pos rfl]
          cases hgz : Dk.get (L.set k (y, f)) z with
          | none => rfl
          | some q =>
            exfalso
            have hm : z ∈ Dk.keys (L.set k (y, f)) := mem_keys.2 (by rw [hgz]; simp)
            rw [hkeys] at hm
            obtain ⟨j, hj⟩ := List.getElem?_of_mem hm
            rw [List.getElem?_set] at hj
            split at hj
            · rename_i hkj
              split at hj
              · injection hj with hj; exact hzy hj.symm
              · cases hj
            · rename_i hkj
              have hkz : (Dk.keys L)[k]? = some z := by unfold Dk.keys; rw [List.getElem?_map, e2]; rfl
              have := (List.getElem?_inj (by simpa [Dk.keys] using hk) hn1).1 (hkz.trans hj.symm)
              exact hkj this
        · rw [if_neg hzx, ← hz1 z hzy]
          exact get_set_ne e2 (fun e => hzx e.symm) (fun e => hzy e.symm)
theorem Alike.rename (h : Alike d r) (x y : ByteArray) : (Dk.rename d x y).1 = (rename r x y).1 ∧ Alike (Dk.rename d x y).2 (rename r x y).2 := by
  have hask : (Dk.asked true [x, y] = 0 ↔ Dk.asked true [x] = 0 ∧ Dk.asked true [y] = 0) ∧ (Dk.asked true [x, y] ≠ 0 → Dk.asked true [x, y] = 21) ∧ (Dk.asked true [x] ≠ 0 → Dk.asked true [x] = 21) := by
    unfold Dk.asked
    cases h1 : Dk.isName x <;> cases h2 : Dk.isName y <;> simp [h1, h2]
  unfold Dk.rename Rf.rename
  rw [h.on, h.get x]
  by_cases h1 : Dk.asked true [x, y] = 0
  · obtain ⟨h2, h3⟩ := hask.1.1 h1
    rw [if_neg (by rw [h1]; simp), if_neg (by rw [h2]; simp), if_neg (by rw [h3]; simp)]
    cases hg : Dk.get d.files x with
    | none => exact ⟨rfl, h⟩
    | some f =>
      simp only
      rw [act_none h.fuse]
      have hr : Dk.get r.files x = some f := (h.get x).trans hg
      obtain ⟨k1, k2⟩ := ren_ok (y := y) h.nr hr
      refine ⟨rfl, h.on, h.fuse, h.room, Dk.nodup_put (Dk.nodup_del h.nd), k1, fun z => ?_⟩
      simp only
      rw [k2, Dk.get_put, Dk.get_del, h.get]
  · rw [if_pos h1, hask.2.1 h1]
    by_cases h2 : Dk.asked true [x] = 0
    · rw [if_neg (by rw [h2]; simp), if_pos (fun h3 => h1 (hask.1.2 ⟨h2, h3⟩))]
      exact ⟨rfl, h⟩
    · rw [if_pos h2, hask.2.2 h2]
      exact ⟨rfl, h⟩
theorem Alike.file (h : Alike d r) (x y : ByteArray) : (Dk.file d x y).1 = (Rf.file r x y).1 ∧ Alike (Dk.file d x y).2 (Rf.file r x y).2 := by
  -- ahead of the four steps
  have key : ∀ {d : Dk.Disk} {r : Disk}, Alike d r → (Dk.frun x y 4 0 d).1 = (if (Rf.create r (Dk.bes x)).1 ≠ 0 then Rf.create r (Dk.bes x) else
      if (Rf.append (Rf.create r (Dk.bes x)).2 (Dk.bes x) y).1 ≠ 0 then Rf.append (Rf.create r (Dk.bes x)).2 (Dk.bes x) y else
      if (Rf.sync (Rf.append (Rf.create r (Dk.bes x)).2 (Dk.bes x) y).2 (Dk.bes x)).1 ≠ 0 then Rf.sync (Rf.append (Rf.create r (Dk.bes x)).2 (Dk.bes x) y).2 (Dk.bes x) else
      Rf.rename (Rf.sync (Rf.append (Rf.create r (Dk.bes x)).2 (Dk.bes x) y).2 (Dk.bes x)).2 (Dk.bes x) x).1 ∧ Alike (Dk.frun x y 4 0 d).2 (if (Rf.create r (Dk.bes x)).1 ≠ 0 then Rf.create r (Dk.bes x) else
      if (Rf.append (Rf.create r (Dk.bes x)).2 (Dk.bes x) y).1 ≠ 0 then Rf.append (Rf.create r (Dk.bes x)).2 (Dk.bes x) y else
      if (Rf.sync (Rf.append (Rf.create r (Dk.bes x)).2 (Dk.bes x) y).2 (Dk.bes x)).1 ≠ 0 then Rf.sync (Rf.append (Rf.create r (Dk.bes x)).2 (Dk.bes x) y).2 (Dk.bes x) else
      Rf.rename (Rf.sync (Rf.append (Rf.create r (Dk.bes x)).2 (Dk.bes x) y).2 (Dk.bes x)).2 (Dk.bes x) x).2 := by
    intro d r h
    have e0 : ∀ d, Dk.fstep x y 0 d = Dk.create d (Dk.bes x) := fun d => rfl
    have e1 : ∀ d, Dk.fstep x y 1 d = Dk.append d (Dk.bes x) y := fun d => rfl
    have e2 : ∀ d, Dk.fstep x y 2 d = Dk.sync d (Dk.bes x) := fun d => rfl
    have e3 : ∀ d, Dk.fstep x y 3 d = Dk.rename d (Dk.bes x) x := fun d => rfl
    simp only [Dk.frun, e0, e1, e2, e3]
    obtain ⟨a1, a2⟩ := h.create (Dk.bes x)
    obtain ⟨b1, b2⟩ := a2.append (Dk.bes x) y
    obtain ⟨c1, c2⟩ := b2.sync (Dk.bes x)
    obtain ⟨f1, f2⟩ := c2.rename (Dk.bes x) x
    rw [a1, b1, c1]
    split
    · exact ⟨a1, a2⟩
    · split
      · exact ⟨b1, b2⟩
      · split
        · exact ⟨c1, c2⟩
        · split
          · exact ⟨f1, f2⟩
          · rename_i h0
            refine ⟨?_, f2⟩
            rw [← f1]
            simp only [ne_eq, Decidable.not_not] at h0
            exact h0.symm
  unfold Dk.file Rf.file
  obtain ⟨m1, m2⟩ := h.remove (Dk.bes x)
  have hrd : (Dk.remove d (Dk.bes x) = (21, d) ∧ (Rf.read r (Dk.bes x)).2 ≠ 0 ∧ (Rf.create r (Dk.bes x)) = (21, r)) ∨ (Dk.remove d (Dk.bes x) = (22, d) ∧ (Rf.read r (Dk.bes x)).2 ≠ 0) ∨ ((Dk.remove d (Dk.bes x)).1 = 0 ∧ (Rf.read r (Dk.bes x)).2 = 0) := by
    unfold Dk.remove Rf.read Rf.create
    rw [h.on, h.get]
    rcases asked_cases true [Dk.bes x] with h1 | h1 | h1
    · rw [h1]
      cases hg : Dk.get d.files (Dk.bes x) with
      | none => right; left; simp
      | some f => right; right; simp [act_none h.fuse]
    · exfalso
      unfold Dk.asked at h1
      simp at h1
      split at h1 <;> simp at h1
    · left
      rw [h1]
      simp
  rcases hrd with ⟨e1, e2, e3⟩ | ⟨e1, e2⟩ | ⟨e1, e2⟩
  · rw [if_pos (by rw [e1]; simp), if_neg (fun hh => e2 hh.1)]
    simp only [if_neg e2, e3]
    rw [e1]
    exact ⟨rfl, h⟩
  · rw [if_neg (by rw [e1]; simp), if_neg (fun hh => e2 hh.1)]
    simp only [if_neg e2]
    rw [e1]
    exact key h
  · rw [if_neg (by rw [e1]; simp), if_neg (fun hh => hh.2 (by rw [← m1]; exact e1))]
    simp only [if_pos e2]
    exact key m2
theorem Alike.fileV (h : Alike d r) (dir ch : ByteArray) (id : Int) (y : ByteArray) : (Dk.fileV d dir ch id y).1 = (Rf.fileV r dir ch id y).1 ∧ (Dk.fileV d dir ch id y).2.1 = (Rf.fileV r dir ch id y).2.1 ∧ Alike (Dk.fileV d dir ch id y).2.2 (Rf.fileV r dir ch id y).2.2 := by
  unfold Dk.fileV Rf.fileV
  split
  · obtain ⟨h1, h2⟩ := h.file (Dk.fname dir ch id) y
    simp only
    rw [h1]
    exact ⟨rfl, rfl, h2⟩
  · exact ⟨rfl, rfl, h⟩
theorem Alike.roomed (h : Alike d r) (n : Int) : Alike (Dk.roomed d n) { r with left := max n (-1) } := ⟨h.on, h.fuse, rfl, h.nd, h.nr, h.get⟩
theorem Alike.read (h : Alike d r) (x : ByteArray) : Dk.read d x = Rf.read r x := by
  unfold Dk.read Rf.read
  rw [h.on, h.get]
  split
  · rfl
  · cases Dk.get d.files x <;> rfl
/-- Sorted lists of the same texts are the same. -/
theorem sorted_eq : ∀ {a b : List ByteArray}, a.Perm b → a.Pairwise (fun x y => le x y = true) → b.Pairwise (fun x y => le x y = true) → a = b := by
  intro a b hp ha hb
  refine hp.eq_of_pairwise (fun x y _ _ h1 h2 => ?_) ha hb
  unfold le at h1 h2
  simp only [decide_eq_true_eq] at h1 h2
  have h3 := P.cmp_swap x.data.toList y.data.toList
  have h4 : P.cmp x.data.toList y.data.toList = 0 := by
    have h5 : P.cmp x.data.toList y.data.toList ≤ 0 := h1
    have h6 : P.cmp y.data.toList x.data.toList ≤ 0 := h2
    omega
  exact Go.WideShapes.bytes_inj ((P.cmp_zero _ _).1 h4)
end Rf
end Go.Proofs.YtlbdpcokddpjpaaGreatDoor
