/- Parts, joined. -/
import Derived.Test.YtlbdpcokddpjpaaGreatDoorD7
/- dest.File and a crash: which files stand behind it. Plain. -/
namespace Go.Proofs.YtlbdpcokddpjpaaGreatDoor
set_option linter.unusedVariables false
open Go Go.RowKit
namespace Dk
theorem get_one (x : ByteArray) (f : File) (y : ByteArray) : get [(x, f)] y = if x = y then some f else none := by rw [get_cons, get_nil]
theorem get_two (x z : ByteArray) (f h : File) (y : ByteArray) : get [(x, f), (z, h)] y = if x = y then some f else if z = y then some h else none := by rw [get_cons, get_one]
section
variable {x y : ByteArray} {f h : File} (n1 : isName x = true) (n2 : isName (bes x) = true) (hy : y.size ≤ 6000)
theorem bes_ne (x : ByteArray) : bes x ≠ x := fun e => by
  have := congrArg ByteArray.size e
  rw [bes_size] at this
  omega
theorem ne_bes (x : ByteArray) : x ≠ bes x := fun e => bes_ne x e.symm
theorem asked1 (n : isName x = true) : asked true [x] = 0 := by simp [asked, n]
theorem asked2 (n1 : isName x = true) (n2 : isName y = true) : asked true [x, y] = 0 := by simp [asked, n1, n2]
theorem put_new_nil : put ([] : List (ByteArray × File)) (bes x) f = [(bes x, f)] := rfl
theorem put_new_one : put [(x, f)] (bes x) h = [(x, f), (bes x, h)] := by simp [put, get_one, ne_bes x]
theorem put_old_nil : put [(bes x, f)] (bes x) h = [(bes x, h)] := by simp [put, get_one]
theorem put_old_one {k : File} : put [(x, f), (bes x, h)] (bes x) k = [(x, f), (bes x, k)] := by simp [put, get_two, ne_bes x]
theorem del_nil : del [(bes x, f)] (bes x) = [] := by simp [del]
theorem del_one : del [(x, f), (bes x, h)] (bes x) = [(x, f)] := by simp [del, ne_bes x]
theorem put_self {k : File} : put [(x, f)] x k = [(x, k)] := by simp [put, get_one]
theorem put_nil : put ([] : List (ByteArray × File)) x f = [(x, f)] := rfl
theorem cat_empty (y : ByteArray) : ByteArray.empty ++ y = y := by simp
include n1 n2 hy in
/-- Nothing is there yet. -/
theorem file_nil : file ⟨[], true, -1, none⟩ x y = (0, ⟨[(x, ⟨y, y.size⟩)], true, -1, none⟩) := by
  have hr : remove ⟨[], true, -1, none⟩ (bes x) = (22, ⟨[], true, -1, none⟩) := by simp [remove, asked1 n2, get_nil]
  have h0 : fstep x y 0 ⟨[], true, -1, none⟩ = (0, ⟨[(bes x, emptyF)], true, -1, none⟩) := by
    simp [fstep, create, asked1 n2, get_nil, act, put_new_nil]
  have h1 : fstep x y 1 ⟨[(bes x, emptyF)], true, -1, none⟩ = (0, ⟨[(bes x, ⟨y, 0⟩)], true, -1, none⟩) := by
    simp [fstep, append, asked1 n2, get_one, act, put_old_nil, emptyF]
    omega
  have h2 : fstep x y 2 ⟨[(bes x, ⟨y, 0⟩)], true, -1, none⟩ = (0, ⟨[(bes x, ⟨y, y.size⟩)], true, -1, none⟩) := by
    simp [fstep, sync, asked1 n2, get_one, act, put_old_nil]
  have h3 : fstep x y 3 ⟨[(bes x, ⟨y, y.size⟩)], true, -1, none⟩ = (0, ⟨[(x, ⟨y, y.size⟩)], true, -1, none⟩) := by
    simp [fstep, rename, asked2 n2 n1, get_one, act, del_nil, put_nil]
  simp [file, hr, frun, h0, h1, h2, h3]
/-- A fuse that has burnt n steps. -/
def burnt (u : Option Fuse) (k : Nat) : Option Fuse := u.map fun u => { u with n := u.n - k }
theorem act_ok {d : Disk} {F : Disk → Disk} (h : ∀ v, d.fuse = some v → v.n ≠ 0) : act d F = (0, F { d with fuse := burnt d.fuse 1 }) := by
  unfold act burnt
  cases hu : d.fuse with
  | none => cases d; simp_all
  | some v => simp [h v hu]
theorem act_off {d : Disk} {F : Disk → Disk} {v : Fuse} (h : d.fuse = some v) (h0 : v.n = 0) : act d F = (20, crash { d with fuse := none } v.cut v.flip) := by
  unfold act
  rw [h]
  simp [h0]
theorem burnt_burnt (u : Option Fuse) (a b : Nat) : burnt (burnt u a) b = burnt u (a + b) := by
  cases u with
  | none => rfl
  | some v => simp [burnt]; omega
theorem burnt_zero (u : Option Fuse) (a : Nat) (h : ∀ v, u = some v → v.n ≠ a) : ∀ v, burnt u a = some v → v.n ≠ 0 := by
  intro v hv
  cases u with
  | none => cases hv
  | some w =>
    simp only [burnt, Option.map_some, Option.some.injEq] at hv
    subst hv
    have := h w rfl
    simp only
    omega
section
variable (u : Option Fuse)
include n2 in
theorem st_remove : remove ⟨[(x, f)], true, -1, u⟩ (bes x) = (22, ⟨[(x, f)], true, -1, u⟩) := by simp [remove, asked1 n2, get_one, ne_bes x]
include n2 in
theorem st_remove2 (hu : ∀ v, u = some v → v.n ≠ 0) : remove ⟨[(x, f), (bes x, h)], true, -1, u⟩ (bes x) = (0, ⟨[(x, f)], true, -1, burnt u 1⟩) := by
  simp [remove, asked1 n2, get_two, ne_bes x]
  rw [act_ok hu]
  simp [del_one]
include n2 in
theorem st_0 : fstep x y 0 ⟨[(x, f)], true, -1, u⟩ = act ⟨[(x, f)], true, -1, u⟩ fun d => { d with files := put d.files (bes x) emptyF } := by
  simp [fstep, create, asked1 n2, get_one, ne_bes x]
include n2 hy in
theorem st_1 : fstep x y 1 ⟨[(x, f), (bes x, emptyF)], true, -1, u⟩ = act ⟨[(x, f), (bes x, emptyF)], true, -1, u⟩ fun d => { d with files := put d.files (bes x) ⟨y, 0⟩, room := if 0 ≤ d.room then d.room - y.size else d.room } := by
  simp [fstep, append, asked1 n2, get_two, ne_bes x, emptyF]
  omega
include n2 in
theorem st_2 : fstep x y 2 ⟨[(x, f), (bes x, ⟨y, 0⟩)], true, -1, u⟩ = act ⟨[(x, f), (bes x, ⟨y, 0⟩)], true, -1, u⟩ fun d => { d with files := put d.files (bes x) ⟨y, y.size⟩ } := by
  simp [fstep, sync, asked1 n2, get_two, ne_bes x]
include n1 n2 in
theorem st_3 : fstep x y 3 ⟨[(x, f), (bes x, ⟨y, y.size⟩)], true, -1, u⟩ = act ⟨[(x, f), (bes x, ⟨y, y.size⟩)], true, -1, u⟩ fun d => { d with files := put (del d.files (bes x)) x ⟨y, y.size⟩ } := by
  simp [fstep, rename, asked2 n2 n1, get_two, ne_bes x]
end
include n1 n2 hy in
/-- A file of the name is there; the fuse does not burn out. -/
theorem file_one (u : Option Fuse) (hu : ∀ v, u = some v → 4 ≤ v.n) : file ⟨[(x, f)], true, -1, u⟩ x y = (0, ⟨[(x, ⟨y, y.size⟩)], true, -1, burnt u 4⟩) := by
  have b := fun k (hk : k < 4) => burnt_zero u k (fun v hv => by have := hu v hv; omega)
  have e0 : fstep x y 0 ⟨[(x, f)], true, -1, u⟩ = (0, ⟨[(x, f), (bes x, emptyF)], true, -1, burnt u 1⟩) := by
    rw [st_0 n2, act_ok (fun v hv => by have := hu v hv; omega)]
    simp only [put_new_one]
  have e1 : fstep x y 1 ⟨[(x, f), (bes x, emptyF)], true, -1, burnt u 1⟩ = (0, ⟨[(x, f), (bes x, ⟨y, 0⟩)], true, -1, burnt u 2⟩) := by
    rw [st_1 n2 hy, act_ok (b 1 (by omega))]
    simp [put_old_one, burnt_burnt]
  have e2 : fstep x y 2 ⟨[(x, f), (bes x, ⟨y, 0⟩)], true, -1, burnt u 2⟩ = (0, ⟨[(x, f), (bes x, ⟨y, y.size⟩)], true, -1, burnt u 3⟩) := by
    rw [st_2 n2, act_ok (b 2 (by omega))]
    simp [put_old_one, burnt_burnt]
  have e3 : fstep x y 3 ⟨[(x, f), (bes x, ⟨y, y.size⟩)], true, -1, burnt u 3⟩ = (0, ⟨[(x, ⟨y, y.size⟩)], true, -1, burnt u 4⟩) := by
    rw [st_3 n1 n2, act_ok (b 3 (by omega))]
    simp [del_one, put_self, burnt_burnt]
  simp [file, st_remove n2, frun, e0, e1, e2, e3]
include n1 n2 hy in
theorem file_two : file ⟨[(x, f), (bes x, h)], true, -1, none⟩ x y = (0, ⟨[(x, ⟨y, y.size⟩)], true, -1, none⟩) := by
  have h1 := file_one (f := f) n1 n2 hy none (fun v hv => by cases hv)
  have h2 := st_remove n2 (f := f) none
  have h3 := st_remove2 n2 (f := f) (h := h) none (fun v hv => by cases hv)
  unfold file at h1 ⊢
  rw [h2] at h1
  rw [h3]
  simpa [burnt] using h1
theorem crash_on {l : List (ByteArray × File)} {r : Int} {cut flip : Int} : crash ⟨l, true, r, none⟩ cut flip = ⟨crashL cut flip l, false, r, none⟩ := by simp [crash]
include n1 n2 hy in
/-- The fuse burns out, or it does not. -/
theorem file_fuse (n cut flip : Int) (hn : 0 ≤ n) :
    (∃ l, file ⟨[(x, f)], true, -1, some ⟨n, cut, flip⟩⟩ x y = (20, ⟨crashL cut flip l, false, -1, none⟩) ∧ (l = [(x, f)] ∨ ∃ h, l = [(x, f), (bes x, h)])) ∨
    (∃ u, file ⟨[(x, f)], true, -1, some ⟨n, cut, flip⟩⟩ x y = (0, ⟨[(x, ⟨y, y.size⟩)], true, -1, u⟩)) := by
  by_cases h4 : 4 ≤ n
  · exact .inr ⟨_, file_one n1 n2 hy _ (fun v hv => by cases hv; exact h4)⟩
  · left
    have hr := st_remove n2 (f := f) (some ⟨n, cut, flip⟩)
    by_cases z0 : n = 0
    · subst z0
      have e0 : fstep x y 0 ⟨[(x, f)], true, -1, some ⟨0, cut, flip⟩⟩ = (20, ⟨crashL cut flip [(x, f)], false, -1, none⟩) := by
        rw [st_0 n2, act_off rfl rfl]
        simp only [crash_on]
      exact ⟨_, by simp [file, hr, frun, e0], .inl rfl⟩
    · have e0 : fstep x y 0 ⟨[(x, f)], true, -1, some ⟨n, cut, flip⟩⟩ = (0, ⟨[(x, f), (bes x, emptyF)], true, -1, some ⟨n - 1, cut, flip⟩⟩) := by
        rw [st_0 n2, act_ok (fun v hv => by cases hv; exact z0)]
        simp [put_new_one, burnt]
      by_cases z1 : n = 1
      · subst z1
        have e1 : fstep x y 1 ⟨[(x, f), (bes x, emptyF)], true, -1, some ⟨1 - 1, cut, flip⟩⟩ = (20, ⟨crashL cut flip [(x, f), (bes x, emptyF)], false, -1, none⟩) := by
          rw [st_1 n2 hy, act_off rfl rfl]
          simp only [crash_on]
        exact ⟨[(x, f), (bes x, emptyF)], by simp only [file, hr, frun, e0, e1]; simp, .inr ⟨_, rfl⟩⟩
      · have e1 : fstep x y 1 ⟨[(x, f), (bes x, emptyF)], true, -1, some ⟨n - 1, cut, flip⟩⟩ = (0, ⟨[(x, f), (bes x, ⟨y, 0⟩)], true, -1, some ⟨n - 1 - 1, cut, flip⟩⟩) := by
          rw [st_1 n2 hy, act_ok (fun v hv => by cases hv; show n - 1 ≠ 0; omega)]
          simp [put_old_one, burnt]
        by_cases z2 : n = 2
        · subst z2
          have e2 : fstep x y 2 ⟨[(x, f), (bes x, ⟨y, 0⟩)], true, -1, some ⟨2 - 1 - 1, cut, flip⟩⟩ = (20, ⟨crashL cut flip [(x, f), (bes x, ⟨y, 0⟩)], false, -1, none⟩) := by
            rw [st_2 n2, act_off rfl rfl]
            simp only [crash_on]
          exact ⟨[(x, f), (bes x, ⟨y, 0⟩)], by simp only [file, hr, frun, e0, e1, e2]; simp, .inr ⟨_, rfl⟩⟩
        · have e2 : fstep x y 2 ⟨[(x, f), (bes x, ⟨y, 0⟩)], true, -1, some ⟨n - 1 - 1, cut, flip⟩⟩ = (0, ⟨[(x, f), (bes x, ⟨y, y.size⟩)], true, -1, some ⟨n - 1 - 1 - 1, cut, flip⟩⟩) := by
            rw [st_2 n2, act_ok (fun v hv => by cases hv; show n - 1 - 1 ≠ 0; omega)]
            simp [put_old_one, burnt]
          obtain rfl : n = 3 := by omega
          have e3 : fstep x y 3 ⟨[(x, f), (bes x, ⟨y, y.size⟩)], true, -1, some ⟨3 - 1 - 1 - 1, cut, flip⟩⟩ = (20, ⟨crashL cut flip [(x, f), (bes x, ⟨y, y.size⟩)], false, -1, none⟩) := by
            rw [st_3 n1 n2, act_off rfl rfl]
            simp only [crash_on]
          exact ⟨[(x, f), (bes x, ⟨y, y.size⟩)], by simp only [file, hr, frun, e0, e1, e2, e3]; simp, .inr ⟨_, rfl⟩⟩
end
theorem crashF_synced (cut flip : Int) (y : ByteArray) : crashF cut flip ⟨y, y.size⟩ = ⟨y, y.size⟩ := by
  have hk : kept cut ⟨y, y.size⟩ = 0 := by
    unfold kept
    show (min (max cut 0) ((y.size : Int) - (y.size : Int))).toNat = 0
    omega
  have ht : torn cut flip ⟨y, y.size⟩ = y := by
    unfold torn tornL headL
    rw [hk]
    simp only [Nat.lt_irrefl, false_and, if_false]
    show (⟨(y.data.toList.take (y.size + 0)).toArray⟩ : ByteArray) = y
    rw [List.take_of_length_le (by simp)]
  unfold crashF
  rw [ht]
/-- What stands behind a crash, and what comes of writing once more. -/
theorem torn_file {x a b : ByteArray} (n1 : isName x = true) (n2 : isName (bes x) = true) (ha : a.size ≤ 6000) (hb : b.size ≤ 6000) (n cut flip : Int) (hn : 0 ≤ n) (d1 d2 d4 : Disk) (f2 : Int)
    (h1 : d1 = ⟨[(x, ⟨a, a.size⟩)], true, -1, none⟩) (h2 : (f2, d2) = file (fused d1 n cut flip) x b) (h4 : d4 = fused (restored (crash d2 cut flip)) (-1) 0 0) :
    ∃ s, read d4 x = (s, 0) ∧ ((f2 = 0 ∧ s = b) ∨ (f2 = 20 ∧ (s = a ∨ s = b))) ∧ file d4 x b = (0, ⟨[(x, ⟨b, b.size⟩)], true, -1, none⟩) := by
  have hf : fused d1 n cut flip = ⟨[(x, ⟨a, a.size⟩)], true, -1, some ⟨n, cut, flip⟩⟩ := by
    subst h1
    simp [fused, hn]
  rw [hf] at h2
  rcases file_fuse n1 n2 hb (f := ⟨a, a.size⟩) n cut flip hn with ⟨l, e, hl⟩ | ⟨u, e⟩
  · rw [e] at h2
    simp only [Prod.mk.injEq] at h2
    obtain ⟨rfl, rfl⟩ := h2
    have h5 : d4 = ⟨crashL cut flip l, true, -1, none⟩ := by rw [h4]; simp [crash, restored, fused]
    clear h4
    subst h5
    rcases hl with rfl | ⟨h, rfl⟩
    · have hc : crashL cut flip [(x, (⟨a, a.size⟩ : File))] = [(x, ⟨a, a.size⟩)] := by simp [crashL, crashF_synced]
      rw [hc]
      exact ⟨a, by simp [read, asked1 n1, get_one], .inr ⟨rfl, .inl rfl⟩, by rw [file_one n1 n2 hb none (fun v hv => by cases hv)]; rfl⟩
    · have hc : crashL cut flip [(x, (⟨a, a.size⟩ : File)), (bes x, h)] = [(x, ⟨a, a.size⟩), (bes x, crashF cut flip h)] := by simp [crashL, crashF_synced]
      rw [hc]
      exact ⟨a, by simp [read, asked1 n1, get_two], .inr ⟨rfl, .inl rfl⟩, file_two n1 n2 hb⟩
  · rw [e] at h2
    simp only [Prod.mk.injEq] at h2
    obtain ⟨rfl, rfl⟩ := h2
    have h5 : ∃ u', d4 = ⟨[(x, ⟨b, b.size⟩)], true, -1, none⟩ ∧ u' = u := by
      refine ⟨u, ?_, rfl⟩
      rw [h4]
      simp [crash, crashL, crashF_synced, restored, fused]
    obtain ⟨_, h5, _⟩ := h5
    clear h4
    subst h5
    exact ⟨b, by simp [read, asked1 n1, get_one], .inl ⟨rfl, rfl⟩, by rw [file_one n1 n2 hb none (fun v hv => by cases hv)]; rfl⟩
theorem listed_one {x p : ByteArray} {f : File} {r : List ByteArray} (hp : Lib.hasPrefix x.data.toList p.data.toList = true) (h : Listed [(x, f)] p r) : r.length = 1 := by
  obtain ⟨xs, h1, _, rfl⟩ := h
  have : xs = [x] := List.perm_singleton.1 h1
  subst this
  simp [hp]
end Dk
end Go.Proofs.YtlbdpcokddpjpaaGreatDoor

/- DestTorn: wherever the power fails a destination's file has its whole payload, or the one that it had; written again it is there. Conditions: that alive returns true. -/
namespace Go.Proofs.YtlbdpcokddpjpaaGreatDoor
set_option linter.unusedVariables false
open Go Go.RowKit Go.BigFrame
namespace Dk
theorem Fine.frun {x y : ByteArray} : ∀ (n k : Nat) {d : Disk}, Fine d → Fine (frun x y n k d).2
  | 0, _, _, h => h
  | n + 1, k, d, h => by
    unfold Dk.frun
    split
    · exact h.fstep x y k
    · exact Fine.frun n (k + 1) (h.fstep x y k)
theorem Fine.filed {d : Disk} (h : Fine d) (x y : ByteArray) : Fine (Dk.file d x y).2 := by
  unfold Dk.file
  split
  · exact h.remove _
  · exact Fine.frun 4 0 (h.remove _)
theorem Fine.fused {d : Disk} (h : Fine d) {n cut flip : Int} (h1 : n ≤ 9223372036854775807) (h2 : -9223372036854775808 ≤ cut ∧ cut ≤ 9223372036854775807) (h3 : -9223372036854775808 ≤ flip ∧ flip ≤ 9223372036854775807) : Fine (Dk.fused d n cut flip) := by
  refine ⟨h.file, h.few, h.room, fun u hu => ?_⟩
  unfold Dk.fused at hu
  simp only at hu
  split at hu
  · cases hu
    exact ⟨by assumption, h1, h2.1, h2.2, h3.1, h3.2⟩
  · cases hu
theorem Fine.restored {d : Disk} (h : Fine d) : Fine (Dk.restored d) := ⟨h.file, h.few, h.room, h.fuse⟩
abbrev lab : ByteArray := ⟨#[108, 97, 98]⟩
abbrev adt : ByteArray := ⟨#[97, 100, 116]⟩
abbrev outs : ByteArray := ⟨#[111, 117, 116, 47]⟩
theorem nm_ok : isName (fname lab adt 7) = true ∧ isName (bes (fname lab adt 7)) = true ∧ P.putOk 7 4 = true ∧ Lib.hasPrefix (fname lab adt 7).data.toList outs.data.toList = true ∧ (fname lab adt 7).size = 20 := by
  refine ⟨by kernel_rfl, by kernel_rfl, by kernel_rfl, by kernel_rfl, by kernel_rfl⟩
theorem fileV_lab (d : Disk) (y : ByteArray) : fileV d lab adt 7 y = (if (file d (fname lab adt 7) y).1 = 0 then fname lab adt 7 else ByteArray.empty, (file d (fname lab adt 7) y).1, (file d (fname lab adt 7) y).2) := if_pos nm_ok.2.2.1
end Dk
theorem Chg.to_below {g m B : Nat} {w w1 w2 : World} (hb : Below B w w1) (hc : Chg g m w1 w2) (hg : B ≤ g) (hm : B ≤ m) (hB : B ≤ w1.heap.size) : Below B w w2 :=
  ⟨hc.os.trans hb.os, hc.tape.trans hb.tape, hc.output.trans hb.output, Nat.le_trans hb.size hc.size, fun j hj => (hc.block j (by omega) (by omega) (by omega)).trans (hb.block j hj)⟩
/-- What is wanted of alive. -/
def AliveOk : Prop := ∀ w : World, Calls Tryz.prog 5 #[] w fun e w' => e = .returned (.bool true) ∧ Below w.heap.size w w'
set_option maxRecDepth 100000 in
set_option maxHeartbeats 4000000 in
theorem torn_any (hA : AliveOk) (a b : ByteArray) (n cut flip : Int) (h1 : -9223372036854775808 ≤ n ∧ n ≤ 9223372036854775807) (h2 : -9223372036854775808 ≤ cut ∧ cut ≤ 9223372036854775807) (h3 : -9223372036854775808 ≤ flip ∧ flip ≤ 9223372036854775807) (ha : a.size ≤ 140737488351232) (hb : b.size ≤ 140737488351232) (w : World) :
    Calls Tryz.prog 4 #[.string a, .string b, .int .i64 n, .int .i64 cut, .int .i64 flip] w fun e w' => e = .returned (.bool true) ∧ Below w.heap.size w w' := by
  have HA := Lib.hid hA
  clear hA
  by_cases hs : a.size + b.size > 6000
  · have KA := Lib.hid (HA.out w)
    go_enter Tryz.func4, Tryz.ntmps4
    go_wp2_with fail
    refine KA.out.mono ?_
    rintro e w2 ⟨rfl, hb2⟩
    go_wp2_with fail
    go_ret
    exact ⟨rfl, hb2⟩
  by_cases hn : n < 0
  · have KA := Lib.hid (HA.out w)
    go_enter Tryz.func4, Tryz.ntmps4
    go_wp2_with fail
    refine KA.out.mono ?_
    rintro e w2 ⟨rfl, hb2⟩
    go_wp2_with fail
    go_ret
    exact ⟨rfl, hb2⟩
  have KN := Lib.hid (new_any w)
  go_enter Tryz.func4, Tryz.ntmps4
  go_wp2_with fail
  refine KN.out.mono ?_
  rintro e w1 ⟨g, m, rfl, hd1, hb1, hg, hm⟩
  obtain ⟨x, hx⟩ : ∃ x, x = Dk.fname Dk.lab Dk.adt 7 := ⟨_, rfl⟩
  have hok := Dk.nm_ok
  rw [← hx] at hok
  obtain ⟨n1, n2, _, hpre, hsx⟩ := hok
  have hfv : ∀ (d : Dk.Disk) (y : ByteArray), Dk.fileV d Dk.lab Dk.adt 7 y = (if (Dk.file d x y).1 = 0 then x else ByteArray.empty, (Dk.file d x y).1, (Dk.file d x y).2) := fun d y => by rw [hx]; exact Dk.fileV_lab d y
  clear hx
  have HFV := Lib.hid hfv
  have N1 := Lib.hid n1
  have N2 := Lib.hid n2
  have HPRE := Lib.hid hpre
  have ha6 : a.size ≤ 6000 := by omega
  have hb6 : b.size ≤ 6000 := by omega
  have e1 : Dk.fileV Dk.new Dk.lab Dk.adt 7 a = (x, 0, ⟨[(x, ⟨a, a.size⟩)], true, -1, none⟩) := by
    rw [hfv, show Dk.new = ⟨[], true, -1, none⟩ from rfl, Dk.file_nil n1 n2 ha6]
    rfl
  have F1 := Lib.hid (show Dk.Fine ⟨[(x, ⟨a, a.size⟩)], true, -1, none⟩ from by
    have := Dk.Fine.zero.filed x a
    rwa [Dk.file_nil n1 n2 ha6] at this)
  have K1 := file_any w1 hd1 Dk.Fine.zero Dk.lab Dk.adt a 7 (by omega) (by omega) (by decide) (by omega)
  rw [e1] at K1
  have KK := Lib.hid K1
  have HB1 := Lib.hid hb1
  have HG := Lib.hid hg
  have HM := Lib.hid hm
  clear hd1 hb1 K1 e1 hfv n1 n2 hpre KN hg hm
  go_wp2_with fail
  refine KK.out.mono ?_
  rintro e w2 ⟨rfl, hd2, hc2⟩
  have K2 := Lib.hid (fuse_any w2 hd2 n cut flip)
  have C2 := Lib.hid hc2
  clear hd2 hc2 KK
  go_wp2_with fail
  refine K2.out.mono ?_
  rintro e w3 ⟨rfl, hd3, hc3⟩
  have F3 := Lib.hid (F1.out.fused h1.2 h2 h3)
  have K3 := file_any w3 hd3 F3.out Dk.lab Dk.adt b 7 (by omega) (by omega) (by decide) (by omega)
  rw [HFV.out] at K3
  have C3 := Lib.hid (C2.out.trans hc3)
  have F3' := Lib.hid (F3.out.filed x b)
  obtain ⟨d1, hd1⟩ : ∃ d1 : Dk.Disk, d1 = ⟨[(x, ⟨a, a.size⟩)], true, -1, none⟩ := ⟨_, rfl⟩
  rw [← hd1] at K3 F3'
  obtain ⟨r2, hr2⟩ : ∃ r2, r2 = Dk.file (Dk.fused d1 n cut flip) x b := ⟨_, rfl⟩
  rw [← hr2] at K3 F3'
  obtain ⟨f2, d2⟩ := r2
  simp only at K3
  obtain ⟨x2, hx2⟩ : ∃ x2, x2 = (if f2 = 0 then x else ByteArray.empty) := ⟨_, rfl⟩
  rw [← hx2] at K3
  clear hx2
  have HT := Lib.hid (Dk.torn_file N1.out N2.out ha6 hb6 n cut flip (by omega) d1 d2 (Dk.fused (Dk.restored (Dk.crash d2 cut flip)) (-1) 0 0) f2 hd1 hr2 rfl)
  have KK := Lib.hid K3
  clear hd3 hc3 K3 hd1 hr2 K2 F1 F3
  go_wp2_with fail
  refine KK.out.mono ?_
  rintro e w4 ⟨rfl, hd4, hc4⟩
  have C4 := Lib.hid (C3.out.trans hc4)
  have K4 := Lib.hid (on_any w4 g m d2 hd4)
  have HD4 := Lib.hid hd4
  clear hd4 hc4 KK C2 C3
  go_wp2_with fail
  refine K4.out.mono ?_
  rintro e w5 ⟨rfl, rfl⟩
  go_upto_if 54 with fail
  go_cut [] (fun wx => DiskAt wx g m (Dk.crash d2 cut flip) ∧ Chg g m w1 wx)
  case first =>
    cases hon : d2.on with
    | false =>
      go_wp2_with fail
      go_meet
      refine ⟨?_, C4.out⟩
      have : Dk.crash d2 cut flip = d2 := by unfold Dk.crash; rw [if_neg (by rw [hon]; simp)]
      rw [this]
      exact HD4.out
    | true =>
      have KC := Lib.hid (crash_any w4 g m d2 HD4.out F3'.out cut flip h2 h3)
      go_wp2_with fail
      refine KC.out.mono ?_
      rintro e w6 ⟨rfl, hd6, hc6⟩
      go_wp2_with fail
      go_meet
      exact ⟨hd6, C4.out.trans hc6⟩
  case rest =>
    obtain ⟨hd5, hc5⟩ := hcut
    have C5 := Lib.hid hc5
    have F5 := Lib.hid (F3'.out.crash cut flip)
    have K5 := Lib.hid (restore_any _ hd5)
    clear hd5 hc5 C4 HD4
    go_wp2_with fail
    refine K5.out.mono ?_
    rintro e w6 ⟨rfl, hd6, hc6⟩
    have C6 := Lib.hid (C5.out.trans hc6)
    have K6 := Lib.hid (fuse_any w6 hd6 (-1) 0 0)
    have F6 := Lib.hid (F5.out.restored.fused (n := -1) (cut := 0) (flip := 0) (by omega) ⟨by omega, by omega⟩ ⟨by omega, by omega⟩)
    obtain ⟨d4, hd4⟩ : ∃ d4, d4 = Dk.fused (Dk.restored (Dk.crash d2 cut flip)) (-1) 0 0 := ⟨_, rfl⟩
    rw [← hd4] at K6 HT F6
    clear hd4 hd6 hc6 K5 C5 F5
    go_wp2_with fail
    refine K6.out.mono ?_
    rintro e w7 ⟨rfl, hd7, hc7⟩
    have C7 := Lib.hid (C6.out.trans hc7)
    obtain ⟨s, hrd, hfs, hfl⟩ := HT.out
    have K7 := read_any w7 hd7 x (by omega)
    rw [hrd] at K7
    have KK := Lib.hid K7
    have HD7 := Lib.hid hd7
    have HFL := Lib.hid hfl
    have HFS := Lib.hid hfs
    clear hd7 hc7 K6 C6 hrd hfl hfs HT K7
    go_wp2_with fail
    refine KK.out.mono ?_
    rintro e w8 ⟨rfl, hb8⟩
    have C8 := Lib.hid (C7.out.below hb8)
    have HD8 := Lib.hid (HD7.out.below hb8)
    have K8 := file_any w8 HD8.out F6.out Dk.lab Dk.adt b 7 (by omega) (by omega) (by decide) (by omega)
    rw [HFV.out, HFL.out] at K8
    simp only [if_true] at K8
    have K8h := Lib.hid K8
    have F8 := F6.out.filed x b
    rw [HFL.out] at F8
    have F8h := Lib.hid F8
    clear hb8 KK C7 HD7 K8 F8
    go_upto_region 14 with fail
    go_cut [97] (fun v wx => wx = w8 ∧ v = .bool false)
    case first =>
      have hbb : (b.toList == b.toList) = true := by simp
      have haa : (a.toList == a.toList) = true := by simp
      rcases HFS.out with ⟨rfl, rfl⟩ | ⟨rfl, rfl | rfl⟩
      · cases hq : (s.toList == a.toList) <;> (go_wp2_with fail; go_meet; exact ⟨rfl, rfl⟩)
      · go_wp2_with fail
        go_meet
        exact ⟨rfl, rfl⟩
      · cases hq : (s.toList == a.toList) <;> (go_wp2_with fail; go_meet; exact ⟨rfl, rfl⟩)
    case rest =>
      obtain ⟨rfl, rfl⟩ := hcut
      go_wp2_with fail
      refine K8h.out.mono ?_
      rintro e w9 ⟨rfl, hd9, hc9⟩
      have C9 := Lib.hid (C8.out.trans hc9)
      have K9 := read_any w9 hd9 x (by omega)
      rw [show Dk.read (⟨[(x, ⟨b, b.size⟩)], true, -1, none⟩ : Dk.Disk) x = (b, 0) from by simp [Dk.read, Dk.asked1 N1.out, Dk.get_one]] at K9
      have KK := Lib.hid K9
      have HD9 := Lib.hid hd9
      clear hd9 hc9 K9 K8h C8 HD8 HFS HFL HFV
      go_wp2_with fail
      refine KK.out.mono ?_
      rintro e w10 ⟨rfl, hb10⟩
      have C10 := Lib.hid (C9.out.below hb10)
      have HD10 := Lib.hid (HD9.out.below hb10)
      have KA := Lib.hid (HA.out w10)
      clear hb10 KK C9 HD9
      go_wp2_with fail
      refine KA.out.mono ?_
      rintro e w11 ⟨rfl, hb11⟩
      have C11 := Lib.hid (C10.out.below hb11)
      have K11 := Lib.hid (list_any w11 (HD10.out.below hb11) F8h.out (fun q hq => by simp at hq; rw [hq]; simp only; omega) Dk.outs)
      have hbb : (b.toList == b.toList) = true := by simp
      have hxx : (x.toList == x.toList) = true := by simp
      clear hb11 KA C10 HD10
      go_wp2_with fail
      refine K11.out.mono ?_
      rintro e w12 ⟨hb12, A, nn, cc, l, rfl, hst, hl, _, hon⟩
      have hl1 := Dk.listed_one HPRE.out (hon (by trivial))
      obtain rfl : nn = 1 := by omega
      have B12 := Lib.hid (Chg.to_below HB1.out (C11.out.below hb12) HG.out HM.out HB1.out.size)
      clear hst hl hon hb12 hl1
      go_wp2_with fail
      go_ret
      exact ⟨rfl, B12.out⟩
end Go.Proofs.YtlbdpcokddpjpaaGreatDoor
