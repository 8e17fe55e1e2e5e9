/- Parts, joined. -/
import Derived.Test.YtlbdpcokddpjpaaGreatDoorR1
/- The reference's disk: lists of files that grow; what take, Create return. -/
namespace Go.Proofs.YtlbdpcokddpjpaaGreatDoor
set_option linter.unusedVariables false
open Go Go.RowKit Go.BigFrame
theorem infoRF : (Tryz.prog.info? 82).map (fun i => (i.zero, i.size, i.bytes)) = some (some (.agg #[.string ByteArray.empty, .string ByteArray.empty, .int .i64 0]), 3, 40) := by kernel_rfl
theorem fl_one (l : List Rf.Fl) : ∀ u ∈ l.flatMap Rf.cells, u.oneCell' = true := by
  intro u hu
  obtain ⟨p, _, hx⟩ := List.mem_flatMap.1 hu
  simp [Rf.cells] at hx
  rcases hx with rfl | rfl | rfl <;> rfl
theorem stepF_appendD {P : Program} {ops : Array Oper} {o : Oper} {a : Act} {w : World} {K : Value → World → Prop} (hg : o.guard = none) (s x : Operand) (t : TypeId) (ho : o.op = .call { callee := .builtin .append, args := #[s, x], argTypes := #[t, t] })
    {v1 vx v' : Value} {w' : World} (hs : a.eval s = v1) (hx : a.eval x = vx) (hr : (Builtin.append_ #[t, t] o.type #[v1, vx]).run P w = .ok v' w') (hK : K v' w') : stepF P ops o a w K := by
  unfold stepF
  have hw : Region.wanted o (yielded ops a.tmps) = true := by simp [Region.wanted, hg]
  rw [if_pos hw]
  have : (execOp a.eval o).run P w = .ok (.value v') w' := by
    unfold execOp
    simp only [ho, resolve, invoke, builtin, Sem.run_bind, Sem.run_pure, Result.andThen_ok, List.map_toArray, List.map_cons, List.map_nil, hs, hx, hr]
  rw [this]
  exact hK
theorem wpList_appendD {P : Program} {w : World} {ops : Array Oper} {rest : List Oper} {o : Oper} {a : Act} {Q : Exit → Act → World → Prop} (hgd : o.guard = none) (s x : Operand) (t : TypeId)
    (ho : o.op = .call { callee := .builtin .append, args := #[s, x], argTypes := #[t, t] }) {v1 vx v' : Value} {w' : World} (hs : a.eval s = v1) (hx : a.eval x = vx) (hr : (Builtin.append_ #[t, t] o.type #[v1, vx]).run P w = .ok v' w')
    (h : wpList P ops Q rest (a.put o.dst v') w') : wpList P ops Q (o :: rest) a w := by
  refine wpList_plain hgd fun K hK => ?_
  unfold Oper.wp execOp
  simp only [ho, resolve, invoke, builtin, Sem.run_bind, Sem.run_pure, Result.andThen_ok, List.map_toArray, List.map_cons, List.map_nil, hs, hx, hr]
  exact hK _ _ h
theorem rf_append_none (w : World) (ty : TypeId) : (Builtin.append_ #[61, 61] ty #[.slice none 0 0, .slice none 0 0]).run Tryz.prog w = .ok (.slice none 0 0) w := by
  obtain ⟨i, hi, hz, hs1, hb1⟩ := info_parts infoRF
  simp [Builtin.append_, run_underlying Tryz.underlying61, sizeOf, typeInfo, hi, Builtin.lenOf, Builtin.firstCells]
/-- Files appended to files of the call's own. -/
theorem rf_append (w : World) (ty : TypeId) (C : Nat) (v : Value) (l : List Rf.Fl) (h : OwnF w C v l) (ad : Addr) (m c : Nat) (news : List Rf.Fl) (hl : news.length = m) (hn : ∀ j u, (news.flatMap Rf.cells)[j]? = some u → w.cell? (ad.add j) = some u)
    (hb : l.length + m ≤ 1099511627777) (hC : C ≤ w.heap.size) : ∃ v' w', (Builtin.append_ #[61, 61] ty #[v, .slice (some ad) m c]).run Tryz.prog w = .ok v' w' ∧ OwnF w' C v' (l ++ news) ∧ Below C w w' ∧ w.grownBy w' v.ownBlock := by
  obtain ⟨i, hi, hz, hs1, hb1⟩ := info_parts infoRF
  obtain ⟨v', w', hr, ho, hg, _, _⟩ := run_append_own_at (P := Tryz.prog) w C 61 ty 82 i _ 3 40 Tryz.underlying61 hi hz hs1 hb1 rfl (by omega) v l.length (l.flatMap Rf.cells) h ad m c (news.flatMap Rf.cells) (by rw [fl_flat_len, hl]) hn (fl_one news) (by unfold maxLen; omega) (by omega) hC
  refine ⟨v', w', hr, ?_, (Below.refl _ w).grown hg hC (fun k hk => (World.ownsRow.lt h k hk).1), hg⟩
  unfold OwnF
  rw [List.length_append, List.flatMap_append, hl]
  exact ho
section
variable {w w' : World} {B g : Nat} {r : Rf.Disk}
theorem OwnF.none_ (w : World) (B : Nat) : OwnF w B (.slice none 0 0) [] := ⟨rfl, .inl ⟨rfl, rfl⟩⟩
theorem OwnF.less {B' : Nat} {v : Value} {l : List Rf.Fl} (h : OwnF w B v l) (hB : B' ≤ B) : OwnF w B' v l := by
  obtain ⟨h1, h2⟩ := h
  refine ⟨h1, ?_⟩
  rcases h2 with h2 | ⟨b, cap, cur, hv, hb, r⟩
  · exact .inl h2
  · exact .inr ⟨b, cap, cur, hv, by omega, r⟩
/-- The cells of a part of a list. -/
theorem OwnF.part {b n cap : Nat} {l : List Rf.Fl} (h : OwnF w B (.slice (some ⟨b, 0, none⟩) n cap) l) (i m : Nat) (him : i + m ≤ l.length) : ∀ j u, (((l.drop i).take m).flatMap Rf.cells)[j]? = some u → w.cell? ((⟨b, i * 3, none⟩ : Addr).add j) = some u := by
  intro j u hu
  have hj : j < m * 3 := by
    have := (List.getElem?_eq_some_iff.1 hu).1
    rw [fl_flat_len, List.length_take, List.length_drop] at this
    have : min m (l.length - i) = m := by omega
    omega
  have hk : j / 3 < m := by omega
  have hlk : ((l.drop i).take m)[j / 3]? = l[i + j / 3]? := by rw [List.getElem?_take_of_lt hk, List.getElem?_drop]
  have hp : l[i + j / 3]? = some (l[i + j / 3]'(by omega)) := List.getElem?_eq_getElem (by omega)
  have h1 := fl_flat_get ((l.drop i).take m) (j / 3) (j % 3) _ (hlk.trans hp) (by omega)
  rw [show j / 3 * 3 + j % 3 = j by omega] at h1
  rw [h1] at hu
  obtain ⟨b', cap', e, _, _, c0, c1, c2, _⟩ := h.in_ hp
  cases e
  rw [Addr.add_lit]
  have hjj : i * 3 + j = (i + j / 3) * 3 + j % 3 := by omega
  rw [hjj]
  rcases (by omega : j % 3 = 0 ∨ j % 3 = 1 ∨ j % 3 = 2) with h0 | h0 | h0
  · rw [h0] at hu ⊢; simp [Rf.cells] at hu; rw [Nat.add_zero, c0, hu]
  · rw [h0] at hu ⊢; simp [Rf.cells] at hu; rw [c1, hu]
  · rw [h0] at hu ⊢; simp [Rf.cells] at hu; rw [c2, hu]
theorem OwnF.form {v : Value} {l : List Rf.Fl} (h : OwnF w B v l) : ∃ A c, v = .slice A l.length c := by
  rcases h.block with ⟨rfl, rfl⟩ | ⟨b, cap, cur, hv, _⟩
  · exact ⟨none, 0, rfl⟩
  · exact ⟨_, _, hv⟩
theorem Stays.of_grown {a b : World} (h : a.grownBy b none) : Stays a b := ⟨h.os, h.tape, h.output, h.size, fun k hk => h.block k hk (by simp)⟩
theorem OwnF.stays {C : Nat} {v : Value} {l : List Rf.Fl} (h : OwnF w C v l) (hs : Stays w w') : OwnF w' C v l := h.below ((Below.refl _ w).trans hs)
/-- The list's cell of the reference's disk's block. -/
theorem RefAt.list_ (h : RefAt w B g r) {v : Value} {l : List Rf.Fl} (hl : OwnF w B v l) : RefAt (w.setCell ⟨g, 0, none⟩ v) B g { r with files := l } ∧ Tu B refT w (w.setCell ⟨g, 0, none⟩ v) := by
  obtain ⟨h0, v0, off, cut, flip, acts, hk, ho, _⟩ := h
  have hg := grown_set w g 0 v
  refine ⟨⟨h0, v, off, cut, flip, acts, hk.set_ 0 _, ho, hl.tuNot fun b cur _ hh => hg.block b (Array.getElem?_eq_some_iff.1 hh).1 (fun e => ?_)⟩, Tu.one hk (by decide) h0 hg⟩
  injection e with e
  exact blk_ne (show Blk w b _ cur from hh) hk (by decide) e
set_option maxRecDepth 100000 in
set_option maxHeartbeats 2000000 in
theorem refTake_any (w : World) (h : RefAt w B g r) (hB : B ≤ w.heap.size) (i : Nat) (hi : i < r.files.length) (hn : r.files.length ≤ 100000) : Calls Tryz.prog 83 #[.pointer (some ⟨g, 0, none⟩), .int .i64 i] w fun e w' => e = .returned (.tuple #[]) ∧ RefAt w' B g { r with files := r.files.eraseIdx i } ∧ Tu B refT w w' := by
  have HR := Lib.hid h
  obtain ⟨h0, v, off, cut, flip, acts, hk, rfl, hl⟩ := h
  obtain ⟨b, cap, rfl, hBb, hb, -, -, -, -, hcap⟩ := hl.in_ (List.getElem?_eq_getElem hi)
  have HL := Lib.hid hl
  have HK := Lib.hid hk
  have hcm : cap ≤ maxLen := by
    rcases hl.2 with ⟨h1, _⟩ | ⟨_, _, _, hv, _, _, _, h2, _⟩
    · cases h1
    · cases hv; exact h2
  unfold maxLen at hcm
  clear hk hl
  generalize hnl : r.files.length = n at *
  have hic : i ≤ cap := by omega
  have hi1 : i + 1 ≤ n := by omega
  have hcond : 0 ≤ (i : Int) + 1 ∧ (i : Int) + 1 ≤ (n : Int) := by omega
  have hwr : IntKind.i64.wrap ((i : Int) + 1) = (i : Int) + 1 := by rw [IntKind.wrap_i64]; omega
  go_enter Tryz.func83, Tryz.ntmps83
  go_wp2_with fail
  refine wp_region_free 15 [0] Stays (fun | 7 => some fun v w' => OwnF w' w.heap.size v (r.files.take i) | _ => none) (by kernel_rfl) (by kernel_rfl) Stays.refl (by simp) (Stays.draw _) Stays.trans ?_ ?_
  · intro j φ v x y hB hp hxy
    split at hB <;> cases hB
    exact OwnF.stays hp hxy
  · apply wpFree_late rfl rfl
    · intro vs wx K hK
      go_simp
      exact hK
    intro KK hKK
    go_simp
    refine hKK _ ?_
    clear hKK KK
    apply wpFree_pure rfl rfl
    · intro vs wx hk K hK
      go_simp
      exact hK _ (Stays.refl _)
    intro KK hKK
    go_simp
    refine hKK _ ?_
    clear hKK KK
    apply wpFree_pure rfl rfl
    · intro vs wx hk K hK
      go_simp
      exact hK _ (Stays.refl _)
    intro KK hKK
    go_simp
    refine hKK _ ?_
    clear hKK KK
    apply wpFree_pure rfl rfl
    · intro vs wx hk K hK
      go_simp
      exact hK _ (Stays.refl _)
    intro KK hKK
    go_simp
    refine hKK _ ?_
    clear hKK KK
    apply wpFree_pure rfl rfl
    · intro vs wx hk K hK
      have c0 := fun i => (HK.out.stays hk.1).cell i
      go_simp
      exact hK _ (Stays.refl _)
    intro KK hKK
    go_simp
    refine hKK _ ?_
    clear hKK KK
    apply wpFree_pure rfl rfl
    · intro vs wx hk K hK
      go_simp
      exact hK _ (Stays.refl _)
    intro KK hKK
    go_simp
    refine hKK _ ?_
    clear hKK KK
    apply wpFree_pure rfl rfl
    · intro vs wx hk K hK
      go_simp
      exact hK _ (Stays.refl _)
    intro KK hKK
    go_simp
    refine hKK _ ?_
    clear hKK KK
    refine wpFree_fact rfl ?_ ?_
    · intro vs wx hk K hK
      obtain ⟨v', w', hr, ho, hb2, hg⟩ := rf_append wx 61 w.heap.size (.slice none 0 0) [] (OwnF.none_ _ _) ⟨b, 0, none⟩ i cap (r.files.take i) (by rw [List.length_take]; omega) (fun j u hu => by
        have := (HL.out.stays hk.1).part 0 i (by omega) j u (by simpa using hu)
        simpa using this) (by simp; omega) hk.1.size
      exact stepF_appendD rfl (.const (.slice none 0 0)) (.tmp 10) 61 rfl rfl rfl hr (hK _ _ (Stays.of_grown hg) ho)
    intro KK hKK
    go_simp
    refine hKK _ ?_
    clear hKK KK
    apply wpFree_pure rfl rfl
    · intro vs wx hk K hK
      go_simp
      exact hK _ (Stays.refl _)
    intro KK hKK
    go_simp
    refine hKK _ ?_
    clear hKK KK
    apply wpFree_pure rfl rfl
    · intro vs wx hk K hK
      go_simp
      exact hK _ (Stays.refl _)
    intro KK hKK
    go_simp
    refine hKK _ ?_
    clear hKK KK
    apply wpFree_pure rfl rfl
    · intro vs wx hk K hK
      go_simp
      exact hK _ (Stays.refl _)
    intro KK hKK
    go_simp
    refine hKK _ ?_
    clear hKK KK
    apply wpFree_pure rfl rfl
    · intro vs wx hk K hK
      have c0 := fun i => (HK.out.stays hk.1).cell i
      go_simp
      exact hK _ (Stays.refl _)
    intro KK hKK
    go_simp
    refine hKK _ ?_
    clear hKK KK
    apply wpFree_pure rfl rfl
    · intro vs wx hk K hK
      go_simp
      exact hK _ (Stays.refl _)
    intro KK hKK
    go_simp
    refine hKK _ ?_
    clear hKK KK
    apply wpFree_pure rfl rfl
    · intro vs wx hk K hK
      go_simp
      exact hK _ (Stays.refl _)
    intro KK hKK
    go_simp
    refine hKK _ ?_
    clear hKK KK
    apply wpFree_pure rfl rfl
    · intro vs wx hk K hK
      go_simp
      exact hK _ (Stays.refl _)
    intro KK hKK
    go_simp
    refine hKK _ ?_
    clear hKK KK
    refine wpFree_nil ?_
    intro vs w5 hs5 hf5
    have ho7 := hf5 7 _ (by omega) rfl
    generalize vs 7 = v7 at *
    intro KK hKK
    simp only [List.drop_succ_cons, List.drop_zero]
    obtain ⟨ad, hade, hadc⟩ : ∃ ad : Addr, (if cap = i + 1 then some (⟨b, 0, none⟩ : Addr) else some ⟨b, (i + 1) * 3, none⟩) = some ad ∧ ∀ j u, ((r.files.drop (i + 1)).flatMap Rf.cells)[j]? = some u → w5.cell? (ad.add j) = some u := by
      by_cases hci : cap = i + 1
      · refine ⟨_, if_pos hci, fun j u hu => ?_⟩
        rw [List.drop_eq_nil_of_le (by omega)] at hu
        simp at hu
      · refine ⟨_, if_neg hci, fun j u hu => ?_⟩
        refine (HL.out.stays hs5).part (i + 1) (n - (i + 1)) (by omega) j u ?_
        rw [List.take_of_length_le (by rw [List.length_drop]; omega)]
        exact hu
    rw [hade]
    clear hade
    obtain ⟨v', w', hr, ho, hb2, hg⟩ := rf_append w5 61 w.heap.size v7 (r.files.take i) ho7 ad (n - (i + 1)) (cap - (i + 1)) (r.files.drop (i + 1)) (by rw [List.length_drop]; omega) hadc (by rw [List.length_take]; omega) hs5.size
    rw [← List.eraseIdx_eq_take_drop_succ] at ho
    obtain ⟨A', c', e⟩ := ho.form
    generalize (r.files.eraseIdx i).length = m' at e
    subst e
    refine wpList_appendD rfl (.tmp 11) (.tmp 18) 61 rfl rfl rfl hr ?_
    have hbw : Below w.heap.size w w' := ((Below.refl _ w).trans hs5).trans hb2
    have HR5 := Lib.hid ((HR.out.below hbw).list_ (ho.less hB))
    have hk5 := HK.out.below hbw HK.out.lt
    have c5 := fun i => hk5.cell i
    have f5 := fun i => hk5.frozen i
    have HB5 := Lib.hid hbw
    clear hk5 hr ho hb2 hg hadc hs5 hf5 ho7 hbw
    go_wp2_with fail
    refine bodyPost_end (results_none rfl _ _ _) rfl ⟨rfl, HR5.out.1, (Tu.of_below HB5.out).trans HR5.out.2⟩
end
end Go.Proofs.YtlbdpcokddpjpaaGreatDoor

/- The reference's disk: what Create, Append, Sync, Remove, Rename return. -/
namespace Go.Proofs.YtlbdpcokddpjpaaGreatDoor
set_option linter.unusedVariables false
open Go Go.RowKit Go.BigFrame
namespace Rf
def updAt (l : List Fl) (x : ByteArray) (p : Fl) : List Fl := match l.findIdx? fun p => decide (p.1 = x) with | none => l | some k => l.set k p
def erase (l : List Fl) (x : ByteArray) : List Fl := match l.findIdx? fun p => decide (p.1 = x) with | none => l | some k => l.eraseIdx k
theorem updAt_of {l : List Fl} {x : ByteArray} {k : Nat} (h : idx l x = (k : Int)) (p : Fl) : updAt l x p = l.set k p := by
  unfold idx at h
  unfold updAt
  split at h
  · omega
  · rename_i j hj
    obtain rfl : j = k := by omega
    rw [hj]
theorem erase_of {l : List Fl} {x : ByteArray} {k : Nat} (h : idx l x = (k : Int)) : erase l x = l.eraseIdx k := by
  unfold idx at h
  unfold erase
  split at h
  · omega
  · rename_i j hj
    obtain rfl : j = k := by omega
    rw [hj]
theorem erase_none {l : List Fl} {x : ByteArray} (h : idx l x = -1) : erase l x = l := by
  unfold idx at h
  unfold erase
  split at h
  · rename_i hj; rw [hj]
  · omega
def create (r : Disk) (x : ByteArray) : Int × Disk :=
  if Dk.asked true [x] ≠ 0 then (Dk.asked true [x], r) else if (Dk.get r.files x).isSome then (23, r) else if 2000 ≤ r.files.length ∨ r.left = 0 then (24, r) else (0, { r with files := r.files ++ [(x, Dk.emptyF)] })
def append (r : Disk) (x y : ByteArray) : Int × Disk :=
  if Dk.asked true [x] ≠ 0 then (Dk.asked true [x], r) else match Dk.get r.files x with
  | none => (22, r)
  | some f => if 1048576 < f.data.size + y.size then (2, r) else if 0 ≤ r.left ∧ r.left < y.size then (24, r) else (0, ⟨updAt r.files x (x, { f with data := f.data ++ y }), if 0 ≤ r.left then r.left - y.size else r.left⟩)
def sync (r : Disk) (x : ByteArray) : Int × Disk :=
  if Dk.asked true [x] ≠ 0 then (Dk.asked true [x], r) else match Dk.get r.files x with
  | none => (22, r)
  | some f => (0, { r with files := updAt r.files x (x, { f with synced := f.data.size }) })
def remove (r : Disk) (x : ByteArray) : Int × Disk :=
  if Dk.asked true [x] ≠ 0 then (Dk.asked true [x], r) else match Dk.get r.files x with
  | none => (22, r)
  | some _ => (0, { r with files := erase r.files x })
def ren (l : List Fl) (x y : ByteArray) (f : Dk.File) : List Fl := updAt (if x ≠ y then erase l y else l) x (y, f)
def rename (r : Disk) (x y : ByteArray) : Int × Disk :=
  if Dk.asked true [x] ≠ 0 then (Dk.asked true [x], r) else if Dk.asked true [y] ≠ 0 then (21, r) else match Dk.get r.files x with
  | none => (22, r)
  | some f => (0, { r with files := ren r.files x y f })
end Rf
section
variable {w w' : World} {B g : Nat} {r : Rf.Disk}
theorem flat_set (l : List Rf.Fl) (k j : Nat) (p p' : Rf.Fl) (u : Value) (hk : l[k]? = some p) (hj : j < 3) (hp : Rf.cells p' = (Rf.cells p).set j u) : (l.set k p').flatMap Rf.cells = (l.flatMap Rf.cells).set (k * 3 + j) u := by
  induction l generalizing k with
  | nil => simp at hk
  | cons q l ih =>
    cases k with
    | zero =>
      simp only [List.getElem?_cons_zero, Option.some.injEq] at hk
      subst hk
      rw [List.set_cons_zero, List.flatMap_cons, List.flatMap_cons, hp, List.set_append_left _ _ (by rw [Rf.cells_len]; omega)]
      congr 2
      omega
    | succ k =>
      rw [List.set_cons_succ, List.flatMap_cons, List.flatMap_cons, ih k (by simpa using hk), List.set_append_right _ _ (by rw [Rf.cells_len]; omega), Rf.cells_len]
      congr 2
      omega
/-- A store into one file of the list. -/
theorem refCell {b n cap k j : Nat} {left cut flip acts : Int} {l : List Rf.Fl} {p p' : Rf.Fl} {u : Value} (h0 : B ≤ g)
    (hk : Blk w g 63 #[.slice (some ⟨b, 0, none⟩) n cap, .bool false, .int .i64 left, .int .i64 (-1), .int .i64 cut, .int .i64 flip, .int .i64 acts]) (hl : OwnF w B (.slice (some ⟨b, 0, none⟩) n cap) l)
    (hp : l[k]? = some p) (hj : j < 3) (hc : Rf.cells p' = (Rf.cells p).set j u) : RefAt (w.setCell ⟨b, k * 3 + j, none⟩ u) B g ⟨l.set k p', left⟩ ∧ Tu B refT w (w.setCell ⟨b, k * 3 + j, none⟩ u) := by
  have hg := grown_set w b (k * 3 + j) u
  rcases hl with ⟨h1, ⟨h2, _⟩ | ⟨b', cap', cur, hv, hb, hh, h3, h4, h5, h6⟩⟩
  · cases h2
  · cases hv
    have hbk : Blk w b 82 cur := hh
    refine ⟨⟨h0, _, false, cut, flip, acts, hk.grown hg (fun e => ?_), rfl, ?_⟩, Tu.one hbk (by decide) hb hg⟩
    · injection e with e
      exact blk_ne hk hbk (by decide) e
    · refine ⟨by rw [fl_flat_len], .inr ⟨b, cap, cur.setIfInBounds (k * 3 + j) u, by rw [List.length_set], hb, hbk.set_ (k * 3 + j) u, by rw [List.length_set]; exact h3, h4, by rw [Array.size_setIfInBounds]; exact h5, ?_⟩⟩
      rw [List.length_set, flat_set l k j p p' u hp hj hc, ← h6, Array.toList_setIfInBounds, List.take_set]
theorem OwnF.single (w : World) (p : Rf.Fl) : ∀ j u, ([p].flatMap Rf.cells)[j]? = some u → (w.alloc (.cells #[.string p.1, .string p.2.data, .int .i64 (p.2.synced : Int)] 82)).cell? ((⟨w.heap.size, 0, none⟩ : Addr).add j) = some u := fun j u hu => by
  rw [Addr.add_lit, Nat.zero_add, (Blk.new w _ _).cell]
  simpa [Rf.cells] using hu
set_option maxRecDepth 100000 in
set_option maxHeartbeats 2000000 in
theorem refCreate_any (w : World) (h : RefAt w B g r) (hB : B ≤ w.heap.size) (hn : r.files.length ≤ 100000) (x : ByteArray) (hx : x.size ≤ 9223372036854775807) : Calls Tryz.prog 38 #[.pointer (some ⟨g, 0, none⟩), .string x] w fun e w' => e = .returned (.int .i64 (Rf.create r x).1) ∧ RefAt w' B g (Rf.create r x).2 ∧ Tu B refT w w' := by
  have KG := Lib.hid (refGuard_any w h x hx)
  have KA := Lib.hid (refAt_any w h x hn)
  have KB := Lib.hid (refBurn_any w h)
  have HR := Lib.hid h
  have hq := asked_cases true [x]
  have HC := Lib.hid (Rf.idx_cases r.files x)
  have HV := Lib.hid (show Rf.create r x = if Dk.asked true [x] ≠ 0 then (Dk.asked true [x], r) else if (Dk.get r.files x).isSome then (23, r) else if 2000 ≤ r.files.length ∨ r.left = 0 then (24, r) else (0, { r with files := r.files ++ [(x, Dk.emptyF)] }) from rfl)
  obtain ⟨h0, v, off, cut, flip, acts, hk, rfl, hl⟩ := h
  have c := fun i => hk.cell i
  obtain ⟨A, cap, rfl⟩ := hl.form
  clear hk hl
  generalize Rf.create r x = res at *
  generalize Dk.asked true [x] = q at *
  go_enter Tryz.func38, Tryz.ntmps38
  go_wp2_with fail
  refine KG.out.mono ?_
  rintro e w2 ⟨rfl, rfl⟩
  by_cases h1 : q = 0
  · subst h1
    have HV1 := Lib.hid (HV.out.trans (if_neg (by simp)))
    go_wp2_with fail
    refine KA.out.mono ?_
    rintro e w3 ⟨rfl, rfl⟩
    rcases HC.out with ⟨e1, e2⟩ | ⟨k, f, e1, e2, e3⟩
    · have HV2 := Lib.hid (HV1.out.trans (if_neg (by rw [e2]; simp)))
      rw [e1]
      clear HC e1 e2
      by_cases h2 : 2000 ≤ r.files.length
      · have HV3 := Lib.hid (HV2.out.trans (if_pos (.inl h2)))
        go_wp2_with fail
        go_ret
        rw [HV3.out]
        exact ⟨rfl, HR.out, Tu.refl _ _ _⟩
      · by_cases h3 : r.left = 0
        · have HV3 := Lib.hid (HV2.out.trans (if_pos (.inr h3)))
          have h3' : (r.left == 0) = true := by simpa using h3
          go_wp2_with fail
          go_ret
          rw [HV3.out]
          exact ⟨rfl, HR.out, Tu.refl _ _ _⟩
        · have HV3 := Lib.hid (HV2.out.trans (if_neg (by omega)))
          have h3' : (r.left == 0) = false := by simpa using h3
          go_wp2_with fail
          refine KB.out.mono ?_
          rintro e w4 ⟨rfl, hr4, ht4⟩
          have HT4 := Lib.hid ht4
          have HR4 := Lib.hid hr4
          have hB4 := Lib.hid (Nat.le_trans hB ht4.size)
          clear ht4 KA KB KG HR c hr4
          obtain ⟨h04, v4, off4, cut4, flip4, acts4, hk4, rfl, hl4⟩ := HR4.out
          have c4 := fun i => hk4.cell i
          have HL4 := Lib.hid hl4
          have HK4 := Lib.hid hk4
          obtain ⟨v5, w5, hr5, ho5, hb5⟩ : ∃ v5 w5, (Builtin.append_ #[61, 61] 61 #[.slice none 0 0, v4]).run Tryz.prog w4 = .ok v5 w5 ∧ OwnF w5 w4.heap.size v5 r.files ∧ Below w4.heap.size w4 w5 := by
            rcases hl4.block with ⟨e5, e6⟩ | ⟨b, cap', cur, e5, _⟩
            · subst e5
              rw [e6]
              exact ⟨_, _, rf_append_none w4 _, OwnF.none_ _ _, Below.refl _ _⟩
            · subst e5
              obtain ⟨v', w', hr, ho, hb2, hg⟩ := rf_append w4 61 w4.heap.size (.slice none 0 0) [] (OwnF.none_ _ _) ⟨b, 0, none⟩ r.files.length cap' r.files rfl (fun j u hu => by
                have := hl4.part 0 r.files.length (by omega) j u (by simpa using hu)
                simpa using this) (by simp; omega) (Nat.le_refl _)
              exact ⟨v', w', hr, ho, hb2⟩
          obtain ⟨A5, c5', e5⟩ := ho5.form
          have ho6 := ho5.below ((Below.refl w5.heap.size w5).alloc (Nat.le_refl _) (.cells #[.string x, .string ⟨#[]⟩, .int .i64 0] 82))
          obtain ⟨v7, w7, hr7, ho7, hb7, hg7⟩ := rf_append (w5.alloc (.cells #[.string x, .string ⟨#[]⟩, .int .i64 0] 82)) 61 w4.heap.size v5 r.files ho6 ⟨w5.heap.size, 0, none⟩ 1 1 [(x, Dk.emptyF)] rfl (OwnF.single w5 (x, Dk.emptyF)) (by omega) (by have := hb5.size; simp; omega)
          have hbw : Below w4.heap.size w4 w7 := (hb5.alloc hb5.size _).trans hb7
          have HR7 := Lib.hid ((HR4.out.below hbw).list_ (ho7.less hB4.out))
          obtain ⟨A7, c7', e7⟩ := ho7.form
          generalize (r.files ++ [(x, Dk.emptyF)]).length = m7 at e7
          subst e7
          have hk7 := HK4.out.below hbw HK4.out.lt
          have c7 := fun i => hk7.cell i
          have f7 := fun i => hk7.frozen i
          have HB7 := Lib.hid hbw
          clear hk7 hk4 hl4 ho5 ho6 ho7 hb5 hb7 hg7 hbw e5
          go_wp2_with (first
            | (refine wpList_appendD (v1 := .slice none 0 0) (vx := v4) rfl (.const (.slice none 0 0)) (.tmp 39) 61 rfl rfl rfl hr5 ?_)
            | (refine wpList_appendD (v1 := v5) (vx := .slice (some ⟨w5.heap.size, 0, none⟩) 1 1) rfl (.tmp 40) (.tmp 43) 61 rfl rfl rfl hr7 ?_)
            | fail)
          go_ret
          rw [HV3.out]
          exact ⟨rfl, HR7.out.1, (HT4.out.below HB7.out).trans HR7.out.2⟩
    · have HV2 := Lib.hid (HV1.out.trans (if_pos (by rw [e3]; simp)))
      rw [e1]
      clear HC e1 e2 e3
      go_wp2_with fail
      go_ret
      rw [HV2.out]
      exact ⟨rfl, HR.out, Tu.refl _ _ _⟩
  · have HV1 := Lib.hid (HV.out.trans (if_pos h1))
    have h1' : (q != 0) = true := by simpa using h1
    go_wp2_with fail
    go_ret
    rw [HV1.out]
    exact ⟨rfl, HR.out, Tu.refl _ _ _⟩
end
end Go.Proofs.YtlbdpcokddpjpaaGreatDoor

/- The reference's disk: what Append, Sync, Remove return. -/
namespace Go.Proofs.YtlbdpcokddpjpaaGreatDoor
set_option linter.unusedVariables false
open Go Go.RowKit Go.BigFrame
section
variable {w w' : World} {B g : Nat} {r : Rf.Disk}
set_option maxRecDepth 100000 in
set_option maxHeartbeats 2000000 in
theorem refAppend_any (w : World) (h : RefAt w B g r) (hB : B ≤ w.heap.size) (hn : r.files.length ≤ 100000) (x y : ByteArray) (hx : x.size ≤ 9223372036854775807) (hy : y.size ≤ 1000000000000) (hf : ∀ p ∈ r.files, p.2.data.size ≤ 1048576) (hlf : r.left ≤ 9223372036854775807) :
    Calls Tryz.prog 39 #[.pointer (some ⟨g, 0, none⟩), .string x, .string y] w fun e w' => e = .returned (.int .i64 (Rf.append r x y).1) ∧ RefAt w' B g (Rf.append r x y).2 ∧ Tu B refT w w' := by
  have KG := Lib.hid (refGuard_any w h x hx)
  have KA := Lib.hid (refAt_any w h x hn)
  have KB := Lib.hid (refBurn_any w h)
  have HR := Lib.hid h
  have hq := asked_cases true [x]
  have HC := Lib.hid (Rf.idx_cases r.files x)
  have HV := Lib.hid (show (Dk.asked true [x] ≠ 0 → Rf.append r x y = (Dk.asked true [x], r)) ∧ (Dk.asked true [x] = 0 → (Dk.get r.files x = none → Rf.append r x y = (22, r)) ∧ ∀ f, Dk.get r.files x = some f → Rf.append r x y = if 1048576 < f.data.size + y.size then (2, r) else if 0 ≤ r.left ∧ r.left < y.size then (24, r) else (0, ⟨Rf.updAt r.files x (x, { f with data := f.data ++ y }), if 0 ≤ r.left then r.left - y.size else r.left⟩)) from
    ⟨fun h => by unfold Rf.append; rw [if_pos h], fun h => ⟨fun h2 => by unfold Rf.append; rw [if_neg (by rw [h]; simp), h2], fun f h2 => by unfold Rf.append; rw [if_neg (by rw [h]; simp), h2]⟩⟩)
  have HF := Lib.hid hf
  obtain ⟨h0, v, off, cut, flip, acts, hk, rfl, hl⟩ := h
  have c := fun i => hk.cell i
  obtain ⟨A, cap, rfl⟩ := hl.form
  have HL := Lib.hid hl
  clear hk hl hf
  generalize Rf.append r x y = res at *
  generalize Dk.asked true [x] = q at *
  go_enter Tryz.func39, Tryz.ntmps39
  go_wp2_with fail
  refine KG.out.mono ?_
  rintro e w2 ⟨rfl, rfl⟩
  go_wp2_with fail
  refine KA.out.mono ?_
  rintro e w3 ⟨rfl, rfl⟩
  by_cases h1 : q = 0
  · subst h1
    rcases HC.out with ⟨e1, e2⟩ | ⟨k, f, e1, e2, e3⟩
    · have HV2 := Lib.hid ((HV.out.2 (by trivial)).1 e2)
      rw [e1]
      clear HC e1 e2
      go_wp2_with fail
      go_ret
      rw [HV2.out]
      exact ⟨rfl, HR.out, Tu.refl _ _ _⟩
    · have HV2 := Lib.hid ((HV.out.2 (by trivial)).2 f e3)
      have HU := Lib.hid (Rf.updAt_of e1 (x, { f with data := f.data ++ y }))
      have HE2 := Lib.hid e2
      have hfs := HF.out _ (List.mem_of_getElem? e2)
      simp only at hfs
      have hkl := (List.getElem?_eq_some_iff.1 e2).1
      rw [e1]
      obtain ⟨b, cap', e, hBb, hb, c0, c1, c2, _, hcap⟩ := HL.out.in_ e2
      cases e
      simp only at c0 c1 c2
      clear HC e1 e2 e3 HV
      by_cases h2 : 1048576 < f.data.size + y.size
      · have HV3 := Lib.hid (HV2.out.trans (if_pos h2))
        go_wp2_with fail
        go_ret
        rw [HV3.out]
        exact ⟨rfl, HR.out, Tu.refl _ _ _⟩
      · have HV3 := Lib.hid (HV2.out.trans (if_neg h2))
        clear HV2
        rcases Int.lt_or_le r.left 0 with hl0 | hl0
        · have HV4 := Lib.hid (HV3.out.trans (if_neg (by omega)))
          clear HV3
          go_wp2_with fail
          refine KB.out.mono ?_
          rintro e w4 ⟨rfl, hr4, ht4⟩
          have HT4 := Lib.hid ht4
          have HR4 := Lib.hid hr4
          clear ht4 KA KB KG HR c c0 c1 c2 hr4 HL
          obtain ⟨h04, v4, off4, cut4, flip4, acts4, hk4, rfl, hl4⟩ := HR4.out
          obtain ⟨b4, cap4, rfl, hBb4, hb4, c0, c1, c2, ⟨cur4, hcur4⟩, hcap4⟩ := hl4.in_ HE2.out
          simp only at c0 c1 c2
          have c4 := fun i => hk4.cell i
          have HK4 := Lib.hid hk4
          have HL4 := Lib.hid hl4
          have HC4 := Lib.hid (show Blk w4 b4 82 cur4 from hcur4)
          have hbig : ¬ 9223372036854775807 < f.data.size + y.size := by omega
          clear hk4 hl4 hcur4
          go_wp2_with fail
          refine wp_region_free 15 [] Stays (fun _ => none) (by kernel_rfl) (by kernel_rfl) Stays.refl (by simp) (Stays.draw _) Stays.trans (fun j φ v x y hB => by cases hB) ?_
          apply wpFree_pure rfl rfl
          · intro vs wx hk K hK
            go_simp
            exact hK _ (Stays.refl _)
          intro KK hKK
          go_simp
          refine hKK _ ?_
          clear hKK KK
          apply wpFree_pure rfl rfl
          · intro vs wx hk K hK
            go_simp
            exact hK _ (Stays.refl _)
          intro KK hKK
          go_simp
          refine hKK _ ?_
          clear hKK KK
          apply wpFree_pure rfl rfl
          · intro vs wx hk K hK
            go_simp
            exact hK _ (Stays.refl _)
          intro KK hKK
          go_simp
          refine hKK _ ?_
          clear hKK KK
          apply wpFree_pure rfl rfl
          · intro vs wx hk K hK
            have c4 := fun i => (HK4.out.stays hk.1).cell i
            go_simp
            exact hK _ (Stays.refl _)
          intro KK hKK
          go_simp
          refine hKK _ ?_
          clear hKK KK
          apply wpFree_pure rfl rfl
          · intro vs wx hk K hK
            go_simp
            exact hK _ (Stays.refl _)
          intro KK hKK
          go_simp
          refine hKK _ ?_
          clear hKK KK
          apply wpFree_pure rfl rfl
          · intro vs wx hk K hK
            go_simp
            exact hK _ (Stays.refl _)
          intro KK hKK
          go_simp
          refine hKK _ ?_
          clear hKK KK
          apply wpFree_pure rfl rfl
          · intro vs wx hk K hK
            go_simp
            exact hK _ (Stays.refl _)
          intro KK hKK
          go_simp
          refine hKK _ ?_
          clear hKK KK
          apply wpFree_pure rfl rfl
          · intro vs wx hk K hK
            go_simp
            exact hK _ (Stays.refl _)
          intro KK hKK
          go_simp
          refine hKK _ ?_
          clear hKK KK
          apply wpFree_pure rfl rfl
          · intro vs wx hk K hK
            have c4 := fun i => (HK4.out.stays hk.1).cell i
            go_simp
            exact hK _ (Stays.refl _)
          intro KK hKK
          go_simp
          refine hKK _ ?_
          clear hKK KK
          apply wpFree_pure rfl rfl
          · intro vs wx hk K hK
            go_simp
            exact hK _ (Stays.refl _)
          intro KK hKK
          go_simp
          refine hKK _ ?_
          clear hKK KK
          apply wpFree_pure rfl rfl
          · intro vs wx hk K hK
            go_simp
            exact hK _ (Stays.refl _)
          intro KK hKK
          go_simp
          refine hKK _ ?_
          clear hKK KK
          apply wpFree_pure rfl rfl
          · intro vs wx hk K hK
            go_simp
            exact hK _ (Stays.refl _)
          intro KK hKK
          go_simp
          refine hKK _ ?_
          clear hKK KK
          apply wpFree_pure rfl rfl
          · intro vs wx hk K hK
            have c1' := (hk.1.cell (p := ⟨b4, k * 3 + 1, none⟩) hb4).trans c1
            go_simp
            exact hK _ (Stays.refl _)
          intro KK hKK
          go_simp
          refine hKK _ ?_
          clear hKK KK
          apply wpFree_pure rfl rfl
          · intro vs wx hk K hK
            go_simp
            exact hK _ (Stays.refl _)
          intro KK hKK
          go_simp
          refine hKK _ ?_
          clear hKK KK
          apply wpFree_pure rfl rfl
          · intro vs wx hk K hK
            go_simp
            exact hK _ (Stays.refl _)
          intro KK hKK
          go_simp
          refine hKK _ ?_
          clear hKK KK
          refine wpFree_nil ?_
          intro vs w5 hs5 _
          intro KK hKK
          simp only [List.drop_succ_cons, List.drop_zero]
          have hk5 := HK4.out.stays hs5
          have hc5 := HC4.out.stays hs5
          have H5 := Lib.hid (refCell (p' := (x, { f with data := f.data ++ y })) (u := .string (f.data ++ y)) h04 hk5 (HL4.out.stays hs5) HE2.out (show 1 < 3 by omega) rfl)
          have hk6 := hk5.far (p := ⟨b4, k * 3 + 1, none⟩) (blk_ne hk5 hc5 (by decide)) (.string (f.data ++ y))
          have c5 := (hs5.cell (p := ⟨b4, k * 3 + 1, none⟩) hb4).trans c1
          have f5 := fun i => hc5.frozen i
          have c6 := fun i => hk6.cell i
          have f6 := fun i => hk6.frozen i
          have HT5 := Lib.hid (HT4.out.stays hs5)
          clear hs5 hk5 hc5 hk6 HT4 HK4 HL4 HC4 c4 c0 c1 c2
          go_wp2_with fail
          go_ret
          rw [HV4.out]
          refine ⟨rfl, ?_, HT5.out.trans H5.out.2⟩
          simp only
          rw [HU.out, if_neg (by omega)]
          exact H5.out.1
        · by_cases h3 : r.left < y.size
          · have HV4 := Lib.hid (HV3.out.trans (if_pos ⟨hl0, h3⟩))
            go_wp2_with fail
            go_ret
            rw [HV4.out]
            exact ⟨rfl, HR.out, Tu.refl _ _ _⟩
          · have HV4 := Lib.hid (HV3.out.trans (if_neg (by omega)))
            clear HV3
            go_wp2_with fail
            refine KB.out.mono ?_
            rintro e w4 ⟨rfl, hr4, ht4⟩
            have HT4 := Lib.hid ht4
            have HR4 := Lib.hid hr4
            clear ht4 KA KB KG HR c c0 c1 c2 hr4 HL
            obtain ⟨h04, v4, off4, cut4, flip4, acts4, hk4, rfl, hl4⟩ := HR4.out
            obtain ⟨b4, cap4, rfl, hBb4, hb4, c0, c1, c2, ⟨cur4, hcur4⟩, hcap4⟩ := hl4.in_ HE2.out
            simp only at c0 c1 c2
            have c4 := fun i => hk4.cell i
            have HK4 := Lib.hid hk4
            have HL4 := Lib.hid hl4
            have HC4 := Lib.hid (show Blk w4 b4 82 cur4 from hcur4)
            have hbig : ¬ 9223372036854775807 < f.data.size + y.size := by omega
            clear hk4 hl4 hcur4
            go_wp2_with fail
            refine wp_region_free 15 [] Stays (fun _ => none) (by kernel_rfl) (by kernel_rfl) Stays.refl (by simp) (Stays.draw _) Stays.trans (fun j φ v x y hB => by cases hB) ?_
            apply wpFree_pure rfl rfl
            · intro vs wx hk K hK
              go_simp
              exact hK _ (Stays.refl _)
            intro KK hKK
            go_simp
            refine hKK _ ?_
            clear hKK KK
            apply wpFree_pure rfl rfl
            · intro vs wx hk K hK
              go_simp
              exact hK _ (Stays.refl _)
            intro KK hKK
            go_simp
            refine hKK _ ?_
            clear hKK KK
            apply wpFree_pure rfl rfl
            · intro vs wx hk K hK
              go_simp
              exact hK _ (Stays.refl _)
            intro KK hKK
            go_simp
            refine hKK _ ?_
            clear hKK KK
            apply wpFree_pure rfl rfl
            · intro vs wx hk K hK
              have c4 := fun i => (HK4.out.stays hk.1).cell i
              go_simp
              exact hK _ (Stays.refl _)
            intro KK hKK
            go_simp
            refine hKK _ ?_
            clear hKK KK
            apply wpFree_pure rfl rfl
            · intro vs wx hk K hK
              go_simp
              exact hK _ (Stays.refl _)
            intro KK hKK
            go_simp
            refine hKK _ ?_
            clear hKK KK
            apply wpFree_pure rfl rfl
            · intro vs wx hk K hK
              go_simp
              exact hK _ (Stays.refl _)
            intro KK hKK
            go_simp
            refine hKK _ ?_
            clear hKK KK
            apply wpFree_pure rfl rfl
            · intro vs wx hk K hK
              go_simp
              exact hK _ (Stays.refl _)
            intro KK hKK
            go_simp
            refine hKK _ ?_
            clear hKK KK
            apply wpFree_pure rfl rfl
            · intro vs wx hk K hK
              go_simp
              exact hK _ (Stays.refl _)
            intro KK hKK
            go_simp
            refine hKK _ ?_
            clear hKK KK
            apply wpFree_pure rfl rfl
            · intro vs wx hk K hK
              have c4 := fun i => (HK4.out.stays hk.1).cell i
              go_simp
              exact hK _ (Stays.refl _)
            intro KK hKK
            go_simp
            refine hKK _ ?_
            clear hKK KK
            apply wpFree_pure rfl rfl
            · intro vs wx hk K hK
              go_simp
              exact hK _ (Stays.refl _)
            intro KK hKK
            go_simp
            refine hKK _ ?_
            clear hKK KK
            apply wpFree_pure rfl rfl
            · intro vs wx hk K hK
              go_simp
              exact hK _ (Stays.refl _)
            intro KK hKK
            go_simp
            refine hKK _ ?_
            clear hKK KK
            apply wpFree_pure rfl rfl
            · intro vs wx hk K hK
              go_simp
              exact hK _ (Stays.refl _)
            intro KK hKK
            go_simp
            refine hKK _ ?_
            clear hKK KK
            apply wpFree_pure rfl rfl
            · intro vs wx hk K hK
              have c1' := (hk.1.cell (p := ⟨b4, k * 3 + 1, none⟩) hb4).trans c1
              go_simp
              exact hK _ (Stays.refl _)
            intro KK hKK
            go_simp
            refine hKK _ ?_
            clear hKK KK
            apply wpFree_pure rfl rfl
            · intro vs wx hk K hK
              go_simp
              exact hK _ (Stays.refl _)
            intro KK hKK
            go_simp
            refine hKK _ ?_
            clear hKK KK
            apply wpFree_pure rfl rfl
            · intro vs wx hk K hK
              go_simp
              exact hK _ (Stays.refl _)
            intro KK hKK
            go_simp
            refine hKK _ ?_
            clear hKK KK
            refine wpFree_nil ?_
            intro vs w5 hs5 _
            intro KK hKK
            simp only [List.drop_succ_cons, List.drop_zero]
            have hk5 := HK4.out.stays hs5
            have hc5 := HC4.out.stays hs5
            have H5 := Lib.hid (refCell (p' := (x, { f with data := f.data ++ y })) (u := .string (f.data ++ y)) h04 hk5 (HL4.out.stays hs5) HE2.out (show 1 < 3 by omega) rfl)
            have hk6 := hk5.far (p := ⟨b4, k * 3 + 1, none⟩) (blk_ne hk5 hc5 (by decide)) (.string (f.data ++ y))
            have c5 := (hs5.cell (p := ⟨b4, k * 3 + 1, none⟩) hb4).trans c1
            have f5 := fun i => hc5.frozen i
            have c6 := fun i => hk6.cell i
            have f6 := fun i => hk6.frozen i
            have HT5 := Lib.hid (HT4.out.stays hs5)
            clear hs5 hk5 hc5 hk6 HT4 HK4 HL4 HC4 c4 c0 c1 c2
            have H6 := Lib.hid (H5.out.1.set_ 2 (.int .i64 (r.left - y.size)) (l := r.left - y.size) (.inl ⟨rfl, rfl⟩))
            have hwr : IntKind.i64.wrap (r.left - (y.size : Int)) = r.left - (y.size : Int) := by rw [IntKind.wrap_i64]; omega
            go_wp2_with fail
            go_ret
            rw [HV4.out]
            refine ⟨rfl, ?_, (HT5.out.trans H5.out.2).trans H6.out.2⟩
            simp only
            rw [HU.out, if_pos hl0]
            exact H6.out.1
  · have HV1 := Lib.hid (HV.out.1 h1)
    have h1' : (q != 0) = true := by simpa using h1
    go_wp2_with fail
    go_ret
    rw [HV1.out]
    exact ⟨rfl, HR.out, Tu.refl _ _ _⟩
end
end Go.Proofs.YtlbdpcokddpjpaaGreatDoor
