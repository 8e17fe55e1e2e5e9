/- What Lent returns: a row with a list of its own, and a mark behind it. -/
import Derived.Test.YtemjipongehjlaaGreatL11
import Derived.Maps.AppendAt
import Derived.ArgAppend
import Derived.Deep.DeepAppendRoom
namespace Go.Proofs.YtemjipongehjlaaGreat
set_option linter.unusedVariables false
open Go.RowKit Go.BigFrame
def markLeg : P.Leg := ⟨⟨#[109, 97, 114, 107]⟩, 0, 0, 0, ⟨#[]⟩, ⟨#[]⟩⟩
theorem stepF_append {P : Program} {ops : Array Oper} {o : Oper} {a : Act} {w : World} {K : Value → World → Prop} (hg : o.guard = none) (s x : Operand) (t : TypeId) (ho : o.op = .call { callee := .builtin .append, args := #[s, x], argTypes := #[t, t] })
    {v1 vx v' : Value} {w' : World} (hs : a.eval s = v1) (hx : a.eval x = vx) (hr : (Builtin.append_ #[t, t] o.type #[v1, vx]).run P w = .ok v' w') (hK : K v' w') : stepF P ops o a w K := by
  unfold stepF
  have hw : Region.wanted o (yielded ops a.tmps) = true := by simp [Region.wanted, hg]
  rw [if_pos hw]
  unfold execOp
  simp only [ho, resolve, invoke, builtin, Sem.run_bind, Sem.run_pure, Result.andThen_ok, List.map_toArray, List.map_cons, List.map_nil, hs, hx, hr]
  exact hK
theorem append_none (w : World) (ty : TypeId) : (Builtin.append_ #[26, 26] ty #[.slice none 0 0, .slice none 0 0]).run Tryz.prog w = .ok (.slice none 0 0) w := by
  obtain ⟨i, hi, hz, hs1, hb1⟩ := info_parts infoLeg
  simp [Builtin.append_, run_underlying Tryz.underlying26, sizeOf, typeInfo, hi, Builtin.lenOf, Builtin.firstCells, loadCells, loadCellsFrom]
/-- Legs appended to legs of the call's own. -/
theorem append_own (w : World) (ty : TypeId) (C : Nat) (v : Value) (l : List P.Leg) (h : OwnL w C v l) (ad : Addr) (m c : Nat) (news : List P.Leg) (hl : news.length = m) (hn : ∀ j u, (news.flatMap P.Leg.cells)[j]? = some u → w.cell? (ad.add j) = some u) (hb : l.length + m ≤ 1000000) (hC : C ≤ w.heap.size) :
    ∃ v' w', (Builtin.append_ #[26, 26] ty #[v, .slice (some ad) m c]).run Tryz.prog w = .ok v' w' ∧ OwnL w' C v' (l ++ news) ∧ Below C w w' ∧ w.grownBy w' v.ownBlock := by
  obtain ⟨i, hi, hz, hs1, hb1⟩ := info_parts infoLeg
  obtain ⟨v', w', hr, ho, hg, _, _⟩ := run_append_own_at (P := Tryz.prog) w C 26 ty 69 i _ 6 72 Tryz.underlying26 hi hz hs1 hb1 rfl (by omega) v l.length (l.flatMap P.Leg.cells) h ad m c (news.flatMap P.Leg.cells) (by rw [flat_len _ 6 leg_len, hl]) hn (flat_one news) (by unfold maxLen; omega) (by omega) hC
  refine ⟨v', w', hr, ?_, (Below.refl _ _).grown hg hC (fun k hk => (World.ownsRow.lt h k hk).1), hg⟩
  unfold OwnL
  rw [List.length_append, List.flatMap_append, hl]
  exact ho
/-- What the operations of Lent's region leave. -/
structure LentI (W0 : World) (ls : List P.Leg) (m : Nat) (L : Nat → Bool) (vs : Nat → Value) (w : World) : Prop where
  below : Below W0.heap.size W0 w
  two : L 2 = true → L 5 = false → OwnL w W0.heap.size (vs 2) ls
  four : L 4 = true → L 5 = false → ∃ g, vs 4 = .slice (some ⟨g, 0, none⟩) 1 1 ∧ Blk w g 69 markLeg.cells.toArray
  five : L 5 = true → OwnL w W0.heap.size (vs 5) (ls ++ [markLeg])
  nine : L 9 = true → ∃ g cap, vs 5 = .slice (some ⟨g, 0, none⟩) (m + 1) cap ∧ vs 9 = .slice (some ⟨g, 0, none⟩) m cap
  w52 : L 5 = true → L 2 = true
  w54 : L 5 = true → L 4 = true
  w95 : L 9 = true → L 5 = true
section
variable {W0 : World} {ls : List P.Leg} {m : Nat} {L : Nat → Bool} {vs : Nat → Value} {w w' : World}
theorem off_of {p q : Bool} (h : p = true → q = true) (hq : q = false) : p = false := by
  cases p with
  | false => rfl
  | true => rw [h rfl] at hq; cases hq
theorem LentI.start (W0 : World) : LentI W0 ls m (fun _ => false) vs { W0 with drawn := W0.drawn + 1 } :=
  ⟨⟨rfl, rfl, rfl, Nat.le_refl _, fun _ _ => rfl⟩, (fun h => by cases h), (fun h => by cases h), (fun h => by cases h), (fun h => by cases h), (fun h => by cases h), (fun h => by cases h), (fun h => by cases h)⟩
theorem LentI.pure (h : LentI W0 ls m L vs w) {k : Nat} {v : Value} (h2 : k ≠ 2) (h4 : k ≠ 4) (h5 : k ≠ 5) (h9 : k ≠ 9) : LentI W0 ls m (upd L k) (updv vs k v) w := by
  have e2 : upd L k 2 = L 2 := by simp [upd, Ne.symm h2]
  have e4 : upd L k 4 = L 4 := by simp [upd, Ne.symm h4]
  have e5 : upd L k 5 = L 5 := by simp [upd, Ne.symm h5]
  have e9 : upd L k 9 = L 9 := by simp [upd, Ne.symm h9]
  have v2 : updv vs k v 2 = vs 2 := by simp [updv, Ne.symm h2]
  have v4 : updv vs k v 4 = vs 4 := by simp [updv, Ne.symm h4]
  have v5 : updv vs k v 5 = vs 5 := by simp [updv, Ne.symm h5]
  have v9 : updv vs k v 9 = vs 9 := by simp [updv, Ne.symm h9]
  exact ⟨h.below, by rw [e2, e5, v2]; exact h.two, by rw [e4, e5, v4]; exact h.four, by rw [e5, v5]; exact h.five, by rw [e9, v5, v9]; exact h.nine, by rw [e5, e2]; exact h.w52, by rw [e5, e4]; exact h.w54, by rw [e9, e5]; exact h.w95⟩
theorem LentI.op2 (h : LentI W0 ls m L vs w) (hL : L 2 = false) {v : Value} (ho : OwnL w' W0.heap.size v ls) (hs : Stays w w') : LentI W0 ls m (upd L 2) (updv vs 2 v) w' := by
  have h5 := off_of h.w52 hL
  have h9 := off_of h.w95 h5
  refine ⟨h.below.trans (hs.mono h.below.size), fun _ _ => by simpa [updv] using ho, fun h4 _ => ?_, fun hh => ?_, fun hh => ?_, fun hh => ?_, fun hh => ?_, fun hh => ?_⟩
  · obtain ⟨g, e, hk⟩ := h.four (by simpa [upd] using h4) h5
    exact ⟨g, by simpa [updv] using e, hk.stays hs⟩
  · simp [upd, h5] at hh
  · simp [upd, h9] at hh
  · simp [upd]
  · simp [upd, h5] at hh
  · simp [upd, h9] at hh
theorem LentI.op4 (h : LentI W0 ls m L vs w) (hL : L 4 = false) : LentI W0 ls m (upd L 4) (updv vs 4 (.slice (some ⟨w.heap.size, 0, none⟩) 1 1)) (w.alloc (.cells markLeg.cells.toArray 69)) := by
  have h5 := off_of h.w54 hL
  have h9 := off_of h.w95 h5
  refine ⟨h.below.alloc h.below.size _, fun h2 _ => ?_, fun h4 _ => ⟨w.heap.size, by simp [updv], Blk.new _ _ _⟩, fun hh => ?_, fun hh => ?_, fun hh => ?_, fun hh => ?_, fun hh => ?_⟩
  · have := (h.two (by simpa [upd] using h2) h5).alloc (.cells markLeg.cells.toArray 69)
    simpa [updv] using this
  · simp [upd, h5] at hh
  · simp [upd, h9] at hh
  · simp [upd, h5] at hh
  · simp [upd]
  · simp [upd, h9] at hh
theorem LentI.op5 (h : LentI W0 ls m L vs w) (hL : L 5 = false) (h2 : L 2 = true) (h4 : L 4 = true) {v : Value} (ho : OwnL w' W0.heap.size v (ls ++ [markLeg])) (hb : Below W0.heap.size w w') : LentI W0 ls m (upd L 5) (updv vs 5 v) w' := by
  have h9 := off_of h.w95 hL
  refine ⟨h.below.trans hb, fun _ hh => ?_, fun _ hh => ?_, fun _ => by simpa [updv] using ho, fun hh => ?_, fun _ => by simpa [upd] using h2, fun _ => by simpa [upd] using h4, fun hh => by simp [upd]⟩
  · simp [upd] at hh
  · simp [upd] at hh
  · simp [upd, h9] at hh
theorem LentI.op9 (h : LentI W0 ls m L vs w) (h5 : L 5 = true) {g cap : Nat} (e : vs 5 = .slice (some ⟨g, 0, none⟩) (m + 1) cap) : LentI W0 ls m (upd L 9) (updv vs 9 (.slice (some ⟨g, 0, none⟩) m cap)) w := by
  refine ⟨h.below, fun a b => ?_, fun a b => ?_, fun a => ?_, fun _ => ⟨g, cap, by simpa [updv] using e, by simp [updv]⟩, fun a => ?_, fun a => ?_, fun a => by simpa [upd] using h5⟩
  · simp [upd, h5] at b
  · simp [upd, h5] at b
  · simpa [updv] using h.five h5
  · simpa [upd] using h.w52 h5
  · simpa [upd] using h.w54 h5
end
theorem OwnL.cap {w : World} {B g n c : Nat} {l : List P.Leg} (h : OwnL w B (.slice (some ⟨g, 0, none⟩) n c) l) : n ≤ c ∧ c ≤ maxLen := by
  rcases h.2 with ⟨h1, _⟩ | ⟨g', cap, cur, hv, _, _, hn, hm, _⟩
  · cases h1
  · injection hv with _ h2 h3
    subst h2 h3
    exact ⟨hn, hm⟩
/-- The call hands back the row, with a list of its own and a mark behind it. -/
def GivesLent (w : World) (id run tm st dn flt : Int) (raw : ByteArray) (m : Nat) (ls : List P.Leg) (x : Ending) (w' : World) : Prop :=
  ∃ g cap, x = .returned (.agg #[.int .i64 id, .int .i64 run, .int .i64 tm, .int .i64 st, .int .i64 dn, .string raw, .int .i64 flt, .slice (some ⟨g, 0, none⟩) m cap]) ∧ OwnL w' w.heap.size (.slice (some ⟨g, 0, none⟩) (m + 1) cap) (ls ++ [markLeg]) ∧ Below w.heap.size w w'
set_option maxRecDepth 100000 in
set_option maxHeartbeats 4000000 in
theorem lent_any (id run tm st dn flt : Int) (raw : ByteArray) (A : Option Addr) (m cp : Nat) (ls : List P.Leg) (B : Nat) (w : World)
    (ha : LegsAt w B A m ls) (hA : A = none → m = 0 ∧ cp = 0) (hB : B ≤ w.heap.size) (hm : m ≤ 1000) :
    Calls Tryz.prog 7 #[.agg #[.int .i64 id, .int .i64 run, .int .i64 tm, .int .i64 st, .int .i64 dn, .string raw, .int .i64 flt, .slice A m cp]] w (GivesLent w id run tm st dn flt raw m ls) := by
  have hbel := ((Below.refl w.heap.size w).alloc (Nat.le_refl _) (.cells #[.int .i64 id, .int .i64 run, .int .i64 tm, .int .i64 st, .int .i64 dn, .string raw, .int .i64 flt, .slice A m cp] 28)).alloc (by simp) (.cells #[.int .i64 0, .int .i64 0, .int .i64 0, .int .i64 0, .int .i64 0, .string ⟨#[]⟩, .int .i64 0, .slice none 0 0] 28)
  have k0 := (Blk.new w 28 #[.int .i64 id, .int .i64 run, .int .i64 tm, .int .i64 st, .int .i64 dn, .string raw, .int .i64 flt, .slice A m cp]).alloc (.cells #[.int .i64 0, .int .i64 0, .int .i64 0, .int .i64 0, .int .i64 0, .string ⟨#[]⟩, .int .i64 0, .slice none 0 0] 28)
  have k1 := Blk.new (w.alloc (.cells #[.int .i64 id, .int .i64 run, .int .i64 tm, .int .i64 st, .int .i64 dn, .string raw, .int .i64 flt, .slice A m cp] 28)) 28 #[.int .i64 0, .int .i64 0, .int .i64 0, .int .i64 0, .int .i64 0, .string ⟨#[]⟩, .int .i64 0, .slice none 0 0]
  rw [show (w.alloc (.cells #[.int .i64 id, .int .i64 run, .int .i64 tm, .int .i64 st, .int .i64 dn, .string raw, .int .i64 flt, .slice A m cp] 28)).heap.size = w.heap.size + 1 from by simp] at k1
  have la := (ha.below (hbel.mono hB)).more (Nat.le_trans hB hbel.size)
  obtain ⟨w2, hw2⟩ : ∃ w2, w2 = ((w.alloc (.cells #[.int .i64 id, .int .i64 run, .int .i64 tm, .int .i64 st, .int .i64 dn, .string raw, .int .i64 flt, .slice A m cp] 28)).alloc (.cells #[.int .i64 0, .int .i64 0, .int .i64 0, .int .i64 0, .int .i64 0, .string ⟨#[]⟩, .int .i64 0, .slice none 0 0] 28)) := ⟨_, rfl⟩
  have hz : w2.heap.size = w.heap.size + 2 := by rw [hw2]; simp
  rw [← hw2] at hbel k0 k1 la
  have HW := Lib.hid hw2
  have BB := Lib.hid hbel
  have K0 := Lib.hid k0
  have K1 := Lib.hid k1
  have LA := Lib.hid la
  have HZ := Lib.hid hz
  clear ha hbel k0 k1 la hw2 hz
  go_enter Tryz.func7, Tryz.ntmps7
  go_wp2_with fail
  rw [← HW.out]
  refine wp_region_gen 11 [2, 4, 5, 9] (LentI w2 ls m) (by kernel_rfl) (by kernel_rfl) (LentI.start w2) ?_
  apply wpGen_pure rfl
  · intro L vs wx hI hR hL K hK
    go_simp
    exact hK _ (hI.pure (by decide) (by decide) (by decide) (by decide))
  intro KK hKK
  go_simp
  refine hKK _ ?_
  clear hKK KK
  apply wpGen_pure rfl
  · intro L vs wx hI hR hL K hK
    have c0 := fun i => (K0.out.stays hI.below).cell i
    go_simp
    exact hK _ (hI.pure (by decide) (by decide) (by decide) (by decide))
  intro KK hKK
  go_simp
  refine hKK _ ?_
  clear hKK KK
  refine wpGen_fact rfl ?_ ?_
  · intro L vs wx hI hR hL K hK
    rcases A with _ | ad
    · obtain ⟨rfl, rfl⟩ := hA rfl
      have hls : ls = [] := List.eq_nil_of_length_eq_zero LA.out.len
      subst hls
      exact stepF_append rfl (.const (.slice none 0 0)) (.tmp 4) 26 rfl rfl rfl (append_none wx _) (hK _ _ (hI.op2 hL (OwnL.nil _ _) (Stays.refl _)))
    · have hC : w2.heap.size ≤ wx.heap.size := hI.below.size
      obtain ⟨v', w', hr, ho, hb, hg⟩ := append_own wx 26 w2.heap.size (.slice none 0 0) [] (OwnL.nil _ _) ad m cp ls LA.out.len (fun j u hu => by
        have hj : 0 < m := by
          rcases Nat.eq_zero_or_pos m with h0 | h0
          · have : ls = [] := List.eq_nil_of_length_eq_zero (by rw [LA.out.len, h0])
            rw [this] at hu; simp at hu
          · exact h0
        obtain ⟨ad', e, _, hc⟩ := (LA.out.below hI.below).2 hj
        cases e
        exact hc j u hu) (by simp; omega) hC
      exact stepF_append rfl (.const (.slice none 0 0)) (.tmp 4) 26 rfl rfl rfl hr (hK _ _ (hI.op2 hL ho ⟨hg.os, hg.tape, hg.output, hg.size, fun k hk => hg.block k hk (by simp [Value.ownBlock])⟩))
  intro KK hKK
  go_simp
  refine hKK _ ?_
  clear hKK KK
  apply wpGen_pure rfl
  · intro L vs wx hI hR hL K hK
    go_simp
    exact hK _ (hI.pure (by decide) (by decide) (by decide) (by decide))
  intro KK hKK
  go_simp
  refine hKK _ ?_
  clear hKK KK
  refine wpGen_fact rfl ?_ ?_
  · intro L vs wx hI hR hL K hK
    go_simp
    exact hK _ _ (hI.op4 hL)
  intro KK hKK
  go_simp
  refine hKK _ ?_
  clear hKK KK
  refine wpGen_fact rfl ?_ ?_
  · intro L vs wx hI hR hL K hK
    have h2 := hR 2 (by kernel_rfl)
    have h4 := hR 4 (by kernel_rfl)
    obtain ⟨g, e4, hk4⟩ := hI.four h4 hL
    obtain ⟨v', w', hr, ho, hb, -⟩ := append_own wx 26 w2.heap.size (vs 2) ls (hI.two h2 hL) ⟨g, 0, none⟩ 1 1 [markLeg] rfl (fun j u hu => by
      rw [Addr.add_lit, Nat.zero_add, hk4.cell, List.getElem?_toArray]
      simpa using hu) (by rw [LA.out.len]; omega) hI.below.size
    exact stepF_append rfl (.tmp 5) (.tmp 7) 26 rfl rfl (by rw [← e4]; rfl) hr (hK _ _ (hI.op5 hL h2 h4 ho hb))
  intro KK hKK
  go_simp
  refine hKK _ ?_
  clear hKK KK
  apply wpGen_pure rfl
  · intro L vs wx hI hR hL K hK
    go_simp
    exact hK _ (hI.pure (by decide) (by decide) (by decide) (by decide))
  intro KK hKK
  go_simp
  refine hKK _ ?_
  clear hKK KK
  apply wpGen_pure rfl
  · intro L vs wx hI hR hL K hK
    have c0 := fun i => (K0.out.stays hI.below).cell i
    go_simp
    exact hK _ (hI.pure (by decide) (by decide) (by decide) (by decide))
  intro KK hKK
  go_simp
  refine hKK _ ?_
  clear hKK KK
  apply wpGen_pure rfl
  · intro L vs wx hI hR hL K hK
    go_simp
    exact hK _ (hI.pure (by decide) (by decide) (by decide) (by decide))
  intro KK hKK
  go_simp
  refine hKK _ ?_
  clear hKK KK
  refine wpGen_fact rfl ?_ ?_
  · intro L vs wx hI hR hL K hK
    have h5 := hR 5 (by kernel_rfl)
    obtain ⟨g, cap, e5, -, -⟩ := World.ownsRow.form (hI.five h5) (by simp)
    have e5 : vs 5 = .slice (some ⟨g, 0, none⟩) (m + 1) cap := by rw [e5, List.length_append, LA.out.len]; rfl
    have hcap : m ≤ cap := by
      have := hI.five h5
      rw [e5] at this
      have := this.cap.1
      omega
    go_simp
    exact hK _ _ (hI.op9 h5 e5)
  intro KK hKK
  go_simp
  refine hKK _ ?_
  clear hKK KK
  apply wpGen_pure rfl
  · intro L vs wx hI hR hL K hK
    go_simp
    exact hK _ (hI.pure (by decide) (by decide) (by decide) (by decide))
  intro KK hKK
  go_simp
  refine hKK _ ?_
  clear hKK KK
  refine wpGen_nil ?_
  intro vs w6 hI6
  obtain ⟨g, cap, e5, e9⟩ := hI6.nine (by decide)
  have o6 := hI6.five (by decide)
  rw [e5, HZ.out] at o6
  have S6 := Lib.hid hI6.below
  have O6 := Lib.hid o6
  have B6 := Lib.hid (BB.out.trans (hI6.below.mono BB.out.size))
  have r0 := K0.out.stays hI6.below
  have r1 := K1.out.stays hI6.below
  have c0 := fun i => r0.cell i
  have c1 := fun i => r1.cell i
  have f0 := fun i => r0.frozen i
  have f1 := fun i => r1.frozen i
  intro KK hKK
  rw [e9]
  clear hI6 o6 e5 e9 r0 r1
  simp only [List.drop_succ_cons, List.drop_zero]
  go_wp2
  refine bodyPost_ret (v := .agg #[.int .i64 id, .int .i64 run, .int .i64 tm, .int .i64 st, .int .i64 dn, .string raw, .int .i64 flt, .slice (some ⟨g, 0, none⟩) m cap]) (by simp [results, Tryz.results7, go_sem, c1]) rfl ⟨g, cap, rfl, ?_, ?_⟩
  · refine OwnL.less (B := w.heap.size + 2) ?_ (by omega)
    repeat (refine OwnL.far ?_ (by simp) _)
    exact O6.out
  · repeat (refine Below.setCell ?_ (by simp) _)
    exact B6.out
end Go.Proofs.YtemjipongehjlaaGreat
/- What lent of a channel returns: a channel with a list of its own, and a mark behind it. -/
namespace Go.Proofs.YtemjipongehjlaaGreat
set_option linter.unusedVariables false
open Go.RowKit Go.BigFrame
def markDest : P.Dest := { name := ⟨#[109, 97, 114, 107]⟩, chain := 0, file := false, port := 0, dir := ⟨#[]⟩, retry := 0, backoff := 0, timeout := 0, response := ⟨#[]⟩ }
/-- Dests that the call itself has gathered. -/
def OwnD (w : World) (B : Nat) (v : Value) (l : List P.Dest) : Prop := w.ownsRow B 67 9 v l.length (l.flatMap P.Dest.cells)
theorem infoDest : (Tryz.prog.info? 67).map (fun i => (i.zero, i.size, i.bytes)) = some (some (.agg #[.string ByteArray.empty, .int .i64 0, .bool false, .int .i64 0, .string ByteArray.empty, .int .i64 0, .int .i64 0, .int .i64 0, .string ByteArray.empty]), 9, 96) := by kernel_rfl
theorem dest_one (l : P.Dest) : ∀ u ∈ l.cells, u.oneCell' = true := by
  intro u hu
  simp [P.Dest.cells] at hu
  rcases hu with rfl | rfl | rfl | rfl | rfl | rfl | rfl | rfl | rfl <;> rfl
theorem flat_oneD (l : List P.Dest) : ∀ u ∈ l.flatMap P.Dest.cells, u.oneCell' = true := by
  intro u hu
  obtain ⟨x, _, hx⟩ := List.mem_flatMap.1 hu
  exact dest_one x u hx
section
variable {w w' : World} {B B' : Nat} {v : Value} {l : List P.Dest}
theorem OwnD.nil (w : World) (B : Nat) : OwnD w B (.slice none 0 0) [] := World.ownsRow_nil _ _ _ _
theorem OwnD.alloc (h : OwnD w B v l) (o : Obj) : OwnD (w.alloc o) B v l := World.ownsRow.alloc h o
theorem OwnD.below {C : Nat} (h : OwnD w B v l) (hb : Below C w w') (hC : w.heap.size ≤ C) : OwnD w' B v l := by
  obtain ⟨h1, h2⟩ := h
  refine ⟨h1, ?_⟩
  rcases h2 with h2 | ⟨g, cap, cur, hv, hg, hh, r⟩
  · exact .inl h2
  · have hlt : g < w.heap.size := by
      rcases Nat.lt_or_ge g w.heap.size with h | h
      · exact h
      · rw [Array.getElem?_eq_none h] at hh; cases hh
    exact .inr ⟨g, cap, cur, hv, hg, by rw [hb.block g (by omega)]; exact hh, r⟩
theorem OwnD.less (h : OwnD w B v l) (hB : B' ≤ B) : OwnD w B' v l := by
  obtain ⟨h1, h2⟩ := h
  refine ⟨h1, ?_⟩
  rcases h2 with h2 | ⟨g, cap, cur, hv, hg, r⟩
  · exact .inl h2
  · exact .inr ⟨g, cap, cur, hv, Nat.le_trans hB hg, r⟩
theorem OwnD.far (h : OwnD w B v l) {p : Addr} (hp : p.block < B) (u : Value) : OwnD (w.setCell p u) B v l := by
  obtain ⟨h1, h2⟩ := h
  refine ⟨h1, ?_⟩
  rcases h2 with h2 | ⟨g, cap, cur, hv, hg, hh, r⟩
  · exact .inl h2
  · exact .inr ⟨g, cap, cur, hv, hg, by rw [Below.heap_setCell _ _ _ _ (by omega)]; exact hh, r⟩
theorem OwnD.stays {x y : World} {B : Nat} {v : Value} {l : List P.Dest} (h : OwnD x B v l) (k : Stays x y) : OwnD y B v l := h.below k (Nat.le_refl _)
end
theorem append_noneD (w : World) (ty : TypeId) : (Builtin.append_ #[22, 22] ty #[.slice none 0 0, .slice none 0 0]).run Tryz.prog w = .ok (.slice none 0 0) w := by
  obtain ⟨i, hi, hz, hs1, hb1⟩ := info_parts infoDest
  simp [Builtin.append_, run_underlying Tryz.underlying22, sizeOf, typeInfo, hi, Builtin.lenOf, Builtin.firstCells, loadCells, loadCellsFrom]
/-- Legs appended to legs of the call's own. -/
theorem append_ownD (w : World) (ty : TypeId) (C : Nat) (v : Value) (l : List P.Dest) (h : OwnD w C v l) (ad : Addr) (m c : Nat) (news : List P.Dest) (hl : news.length = m) (hn : ∀ j u, (news.flatMap P.Dest.cells)[j]? = some u → w.cell? (ad.add j) = some u) (hb : l.length + m ≤ 1000000) (hC : C ≤ w.heap.size) :
    ∃ v' w', (Builtin.append_ #[22, 22] ty #[v, .slice (some ad) m c]).run Tryz.prog w = .ok v' w' ∧ OwnD w' C v' (l ++ news) ∧ Below C w w' ∧ w.grownBy w' v.ownBlock := by
  obtain ⟨i, hi, hz, hs1, hb1⟩ := info_parts infoDest
  obtain ⟨v', w', hr, ho, hg, _, _⟩ := run_append_own_at (P := Tryz.prog) w C 22 ty 67 i _ 9 96 Tryz.underlying22 hi hz hs1 hb1 rfl (by omega) v l.length (l.flatMap P.Dest.cells) h ad m c (news.flatMap P.Dest.cells) (by rw [flat_len _ 9 dest_len, hl]) hn (flat_oneD news) (by unfold maxLen; omega) (by omega) hC
  refine ⟨v', w', hr, ?_, (Below.refl _ _).grown hg hC (fun k hk => (World.ownsRow.lt h k hk).1), hg⟩
  unfold OwnD
  rw [List.length_append, List.flatMap_append, hl]
  exact ho
/-- What the operations of Lent's region leave. -/
structure LentDI (W0 : World) (ls : List P.Dest) (m : Nat) (L : Nat → Bool) (vs : Nat → Value) (w : World) : Prop where
  below : Below W0.heap.size W0 w
  two : L 2 = true → L 5 = false → OwnD w W0.heap.size (vs 2) ls
  four : L 4 = true → L 5 = false → ∃ g, vs 4 = .slice (some ⟨g, 0, none⟩) 1 1 ∧ Blk w g 67 markDest.cells.toArray
  five : L 5 = true → OwnD w W0.heap.size (vs 5) (ls ++ [markDest])
  nine : L 9 = true → ∃ g cap, vs 5 = .slice (some ⟨g, 0, none⟩) (m + 1) cap ∧ vs 9 = .slice (some ⟨g, 0, none⟩) m cap
  w52 : L 5 = true → L 2 = true
  w54 : L 5 = true → L 4 = true
  w95 : L 9 = true → L 5 = true
section
variable {W0 : World} {ls : List P.Dest} {m : Nat} {L : Nat → Bool} {vs : Nat → Value} {w w' : World}
theorem LentDI.start (W0 : World) : LentDI W0 ls m (fun _ => false) vs { W0 with drawn := W0.drawn + 1 } :=
  ⟨⟨rfl, rfl, rfl, Nat.le_refl _, fun _ _ => rfl⟩, (fun h => by cases h), (fun h => by cases h), (fun h => by cases h), (fun h => by cases h), (fun h => by cases h), (fun h => by cases h), (fun h => by cases h)⟩
theorem LentDI.pure (h : LentDI W0 ls m L vs w) {k : Nat} {v : Value} (h2 : k ≠ 2) (h4 : k ≠ 4) (h5 : k ≠ 5) (h9 : k ≠ 9) : LentDI W0 ls m (upd L k) (updv vs k v) w := by
  have e2 : upd L k 2 = L 2 := by simp [upd, Ne.symm h2]
  have e4 : upd L k 4 = L 4 := by simp [upd, Ne.symm h4]
  have e5 : upd L k 5 = L 5 := by simp [upd, Ne.symm h5]
  have e9 : upd L k 9 = L 9 := by simp [upd, Ne.symm h9]
  have v2 : updv vs k v 2 = vs 2 := by simp [updv, Ne.symm h2]
  have v4 : updv vs k v 4 = vs 4 := by simp [updv, Ne.symm h4]
  have v5 : updv vs k v 5 = vs 5 := by simp [updv, Ne.symm h5]
  have v9 : updv vs k v 9 = vs 9 := by simp [updv, Ne.symm h9]
  exact ⟨h.below, by rw [e2, e5, v2]; exact h.two, by rw [e4, e5, v4]; exact h.four, by rw [e5, v5]; exact h.five, by rw [e9, v5, v9]; exact h.nine, by rw [e5, e2]; exact h.w52, by rw [e5, e4]; exact h.w54, by rw [e9, e5]; exact h.w95⟩
theorem LentDI.op2 (h : LentDI W0 ls m L vs w) (hL : L 2 = false) {v : Value} (ho : OwnD w' W0.heap.size v ls) (hs : Stays w w') : LentDI W0 ls m (upd L 2) (updv vs 2 v) w' := by
  have h5 := off_of h.w52 hL
  have h9 := off_of h.w95 h5
  refine ⟨h.below.trans (hs.mono h.below.size), fun _ _ => by simpa [updv] using ho, fun h4 _ => ?_, fun hh => ?_, fun hh => ?_, fun hh => ?_, fun hh => ?_, fun hh => ?_⟩
  · obtain ⟨g, e, hk⟩ := h.four (by simpa [upd] using h4) h5
    exact ⟨g, by simpa [updv] using e, hk.stays hs⟩
  · simp [upd, h5] at hh
  · simp [upd, h9] at hh
  · simp [upd]
  · simp [upd, h5] at hh
  · simp [upd, h9] at hh
theorem LentDI.op4 (h : LentDI W0 ls m L vs w) (hL : L 4 = false) : LentDI W0 ls m (upd L 4) (updv vs 4 (.slice (some ⟨w.heap.size, 0, none⟩) 1 1)) (w.alloc (.cells markDest.cells.toArray 67)) := by
  have h5 := off_of h.w54 hL
  have h9 := off_of h.w95 h5
  refine ⟨h.below.alloc h.below.size _, fun h2 _ => ?_, fun h4 _ => ⟨w.heap.size, by simp [updv], Blk.new _ _ _⟩, fun hh => ?_, fun hh => ?_, fun hh => ?_, fun hh => ?_, fun hh => ?_⟩
  · have := (h.two (by simpa [upd] using h2) h5).alloc (.cells markDest.cells.toArray 67)
    simpa [updv] using this
  · simp [upd, h5] at hh
  · simp [upd, h9] at hh
  · simp [upd, h5] at hh
  · simp [upd]
  · simp [upd, h9] at hh
theorem LentDI.op5 (h : LentDI W0 ls m L vs w) (hL : L 5 = false) (h2 : L 2 = true) (h4 : L 4 = true) {v : Value} (ho : OwnD w' W0.heap.size v (ls ++ [markDest])) (hb : Below W0.heap.size w w') : LentDI W0 ls m (upd L 5) (updv vs 5 v) w' := by
  have h9 := off_of h.w95 hL
  refine ⟨h.below.trans hb, fun _ hh => ?_, fun _ hh => ?_, fun _ => by simpa [updv] using ho, fun hh => ?_, fun _ => by simpa [upd] using h2, fun _ => by simpa [upd] using h4, fun hh => by simp [upd]⟩
  · simp [upd] at hh
  · simp [upd] at hh
  · simp [upd, h9] at hh
theorem LentDI.op9 (h : LentDI W0 ls m L vs w) (h5 : L 5 = true) {g cap : Nat} (e : vs 5 = .slice (some ⟨g, 0, none⟩) (m + 1) cap) : LentDI W0 ls m (upd L 9) (updv vs 9 (.slice (some ⟨g, 0, none⟩) m cap)) w := by
  refine ⟨h.below, fun a b => ?_, fun a b => ?_, fun a => ?_, fun _ => ⟨g, cap, by simpa [updv] using e, by simp [updv]⟩, fun a => ?_, fun a => ?_, fun a => by simpa [upd] using h5⟩
  · simp [upd, h5] at b
  · simp [upd, h5] at b
  · simpa [updv] using h.five h5
  · simpa [upd] using h.w52 h5
  · simpa [upd] using h.w54 h5
end
theorem OwnD.cap {w : World} {B g n c : Nat} {l : List P.Dest} (h : OwnD w B (.slice (some ⟨g, 0, none⟩) n c) l) : n ≤ c ∧ c ≤ maxLen := by
  rcases h.2 with ⟨h1, _⟩ | ⟨g', cap, cur, hv, _, _, hn, hm, _⟩
  · cases h1
  · injection hv with _ h2 h3
    subst h2 h3
    exact ⟨hn, hm⟩
/-- The call hands back the channel, with a list of its own and a mark behind it. -/
def GivesLentD (w : World) (cn cd cpre cfil ctr : ByteArray) (cf : Bool) (cpt crt : Int) (n : Nat) (ls : List P.Dest) (x : Ending) (w' : World) : Prop :=
  ∃ g cap, x = .returned (.agg #[.string cn, .bool cf, .int .i64 cpt, .string cd, .string cpre, .string cfil, .string ctr, .slice (some ⟨g, 0, none⟩) n cap, .int .i64 crt]) ∧ OwnD w' w.heap.size (.slice (some ⟨g, 0, none⟩) (n + 1) cap) (ls ++ [markDest]) ∧ Below w.heap.size w w'
set_option maxRecDepth 100000 in
set_option maxHeartbeats 4000000 in
theorem lentD_any (cn cd cpre cfil ctr : ByteArray) (cf : Bool) (cpt crt : Int) (D : Option Addr) (n dc : Nat) (ls : List P.Dest) (B : Nat) (w : World)
    (ha : DestsAt w B D n ls) (hA : D = none → n = 0 ∧ dc = 0) (hB : B ≤ w.heap.size) (hm : n ≤ 1000) :
    Calls Tryz.prog 6 #[.agg #[.string cn, .bool cf, .int .i64 cpt, .string cd, .string cpre, .string cfil, .string ctr, .slice D n dc, .int .i64 crt]] w (GivesLentD w cn cd cpre cfil ctr cf cpt crt n ls) := by
  have hbel := ((Below.refl w.heap.size w).alloc (Nat.le_refl _) (.cells #[.string cn, .bool cf, .int .i64 cpt, .string cd, .string cpre, .string cfil, .string ctr, .slice D n dc, .int .i64 crt] 24)).alloc (by simp) (.cells #[.string ⟨#[]⟩, .bool false, .int .i64 0, .string ⟨#[]⟩, .string ⟨#[]⟩, .string ⟨#[]⟩, .string ⟨#[]⟩, .slice none 0 0, .int .i64 0] 24)
  have k0 := (Blk.new w 24 #[.string cn, .bool cf, .int .i64 cpt, .string cd, .string cpre, .string cfil, .string ctr, .slice D n dc, .int .i64 crt]).alloc (.cells #[.string ⟨#[]⟩, .bool false, .int .i64 0, .string ⟨#[]⟩, .string ⟨#[]⟩, .string ⟨#[]⟩, .string ⟨#[]⟩, .slice none 0 0, .int .i64 0] 24)
  have k1 := Blk.new (w.alloc (.cells #[.string cn, .bool cf, .int .i64 cpt, .string cd, .string cpre, .string cfil, .string ctr, .slice D n dc, .int .i64 crt] 24)) 24 #[.string ⟨#[]⟩, .bool false, .int .i64 0, .string ⟨#[]⟩, .string ⟨#[]⟩, .string ⟨#[]⟩, .string ⟨#[]⟩, .slice none 0 0, .int .i64 0]
  rw [show (w.alloc (.cells #[.string cn, .bool cf, .int .i64 cpt, .string cd, .string cpre, .string cfil, .string ctr, .slice D n dc, .int .i64 crt] 24)).heap.size = w.heap.size + 1 from by simp] at k1
  have la := (ha.below (hbel.mono hB)).more (Nat.le_trans hB hbel.size)
  obtain ⟨w2, hw2⟩ : ∃ w2, w2 = ((w.alloc (.cells #[.string cn, .bool cf, .int .i64 cpt, .string cd, .string cpre, .string cfil, .string ctr, .slice D n dc, .int .i64 crt] 24)).alloc (.cells #[.string ⟨#[]⟩, .bool false, .int .i64 0, .string ⟨#[]⟩, .string ⟨#[]⟩, .string ⟨#[]⟩, .string ⟨#[]⟩, .slice none 0 0, .int .i64 0] 24)) := ⟨_, rfl⟩
  have hz : w2.heap.size = w.heap.size + 2 := by rw [hw2]; simp
  rw [← hw2] at hbel k0 k1 la
  have HW := Lib.hid hw2
  have BB := Lib.hid hbel
  have K0 := Lib.hid k0
  have K1 := Lib.hid k1
  have LA := Lib.hid la
  have HZ := Lib.hid hz
  clear ha hbel k0 k1 la hw2 hz
  go_enter Tryz.func6, Tryz.ntmps6
  go_wp2_with fail
  rw [← HW.out]
  refine wp_region_gen 11 [2, 4, 5, 9] (LentDI w2 ls n) (by kernel_rfl) (by kernel_rfl) (LentDI.start w2) ?_
  apply wpGen_pure rfl
  · intro L vs wx hI hR hL K hK
    go_simp
    exact hK _ (hI.pure (by decide) (by decide) (by decide) (by decide))
  intro KK hKK
  go_simp
  refine hKK _ ?_
  clear hKK KK
  apply wpGen_pure rfl
  · intro L vs wx hI hR hL K hK
    have c0 := fun i => (K0.out.stays hI.below).cell i
    go_simp
    exact hK _ (hI.pure (by decide) (by decide) (by decide) (by decide))
  intro KK hKK
  go_simp
  refine hKK _ ?_
  clear hKK KK
  refine wpGen_fact rfl ?_ ?_
  · intro L vs wx hI hR hL K hK
    rcases D with _ | ad
    · obtain ⟨rfl, rfl⟩ := hA rfl
      have hls : ls = [] := List.eq_nil_of_length_eq_zero LA.out.len
      subst hls
      exact stepF_append rfl (.const (.slice none 0 0)) (.tmp 4) 22 rfl rfl rfl (append_noneD wx _) (hK _ _ (hI.op2 hL (OwnD.nil _ _) (Stays.refl _)))
    · have hC : w2.heap.size ≤ wx.heap.size := hI.below.size
      obtain ⟨v', w', hr, ho, hb, hg⟩ := append_ownD wx 22 w2.heap.size (.slice none 0 0) [] (OwnD.nil _ _) ad n dc ls LA.out.len (fun j u hu => by
        have hj : 0 < n := by
          rcases Nat.eq_zero_or_pos n with h0 | h0
          · have : ls = [] := List.eq_nil_of_length_eq_zero (by rw [LA.out.len, h0])
            rw [this] at hu; simp at hu
          · exact h0
        obtain ⟨ad', e, _, hc⟩ := (LA.out.below hI.below).2 hj
        cases e
        exact hc j u hu) (by simp; omega) hC
      exact stepF_append rfl (.const (.slice none 0 0)) (.tmp 4) 22 rfl rfl rfl hr (hK _ _ (hI.op2 hL ho ⟨hg.os, hg.tape, hg.output, hg.size, fun k hk => hg.block k hk (by simp [Value.ownBlock])⟩))
  intro KK hKK
  go_simp
  refine hKK _ ?_
  clear hKK KK
  apply wpGen_pure rfl
  · intro L vs wx hI hR hL K hK
    go_simp
    exact hK _ (hI.pure (by decide) (by decide) (by decide) (by decide))
  intro KK hKK
  go_simp
  refine hKK _ ?_
  clear hKK KK
  refine wpGen_fact rfl ?_ ?_
  · intro L vs wx hI hR hL K hK
    go_simp
    exact hK _ _ (hI.op4 hL)
  intro KK hKK
  go_simp
  refine hKK _ ?_
  clear hKK KK
  refine wpGen_fact rfl ?_ ?_
  · intro L vs wx hI hR hL K hK
    have h2 := hR 2 (by kernel_rfl)
    have h4 := hR 4 (by kernel_rfl)
    obtain ⟨g, e4, hk4⟩ := hI.four h4 hL
    obtain ⟨v', w', hr, ho, hb, -⟩ := append_ownD wx 22 w2.heap.size (vs 2) ls (hI.two h2 hL) ⟨g, 0, none⟩ 1 1 [markDest] rfl (fun j u hu => by
      rw [Addr.add_lit, Nat.zero_add, hk4.cell, List.getElem?_toArray]
      simpa using hu) (by rw [LA.out.len]; omega) hI.below.size
    exact stepF_append rfl (.tmp 5) (.tmp 7) 22 rfl rfl (by rw [← e4]; rfl) hr (hK _ _ (hI.op5 hL h2 h4 ho hb))
  intro KK hKK
  go_simp
  refine hKK _ ?_
  clear hKK KK
  apply wpGen_pure rfl
  · intro L vs wx hI hR hL K hK
    go_simp
    exact hK _ (hI.pure (by decide) (by decide) (by decide) (by decide))
  intro KK hKK
  go_simp
  refine hKK _ ?_
  clear hKK KK
  apply wpGen_pure rfl
  · intro L vs wx hI hR hL K hK
    have c0 := fun i => (K0.out.stays hI.below).cell i
    go_simp
    exact hK _ (hI.pure (by decide) (by decide) (by decide) (by decide))
  intro KK hKK
  go_simp
  refine hKK _ ?_
  clear hKK KK
  apply wpGen_pure rfl
  · intro L vs wx hI hR hL K hK
    go_simp
    exact hK _ (hI.pure (by decide) (by decide) (by decide) (by decide))
  intro KK hKK
  go_simp
  refine hKK _ ?_
  clear hKK KK
  refine wpGen_fact rfl ?_ ?_
  · intro L vs wx hI hR hL K hK
    have h5 := hR 5 (by kernel_rfl)
    obtain ⟨g, cap, e5, -, -⟩ := World.ownsRow.form (hI.five h5) (by simp)
    have e5 : vs 5 = .slice (some ⟨g, 0, none⟩) (n + 1) cap := by rw [e5, List.length_append, LA.out.len]; rfl
    have hcap : n ≤ cap := by
      have := hI.five h5
      rw [e5] at this
      have := this.cap.1
      omega
    go_simp
    exact hK _ _ (hI.op9 h5 e5)
  intro KK hKK
  go_simp
  refine hKK _ ?_
  clear hKK KK
  apply wpGen_pure rfl
  · intro L vs wx hI hR hL K hK
    go_simp
    exact hK _ (hI.pure (by decide) (by decide) (by decide) (by decide))
  intro KK hKK
  go_simp
  refine hKK _ ?_
  clear hKK KK
  refine wpGen_nil ?_
  intro vs w6 hI6
  obtain ⟨g, cap, e5, e9⟩ := hI6.nine (by decide)
  have o6 := hI6.five (by decide)
  rw [e5, HZ.out] at o6
  have S6 := Lib.hid hI6.below
  have O6 := Lib.hid o6
  have B6 := Lib.hid (BB.out.trans (hI6.below.mono BB.out.size))
  have r0 := K0.out.stays hI6.below
  have r1 := K1.out.stays hI6.below
  have c0 := fun i => r0.cell i
  have c1 := fun i => r1.cell i
  have f0 := fun i => r0.frozen i
  have f1 := fun i => r1.frozen i
  intro KK hKK
  rw [e9]
  clear hI6 o6 e5 e9 r0 r1
  simp only [List.drop_succ_cons, List.drop_zero]
  go_wp2
  refine bodyPost_ret (v := .agg #[.string cn, .bool cf, .int .i64 cpt, .string cd, .string cpre, .string cfil, .string ctr, .slice (some ⟨g, 0, none⟩) n cap, .int .i64 crt]) (by simp [results, Tryz.results6, go_sem, c1]) rfl ⟨g, cap, rfl, ?_, ?_⟩
  · refine OwnD.less (B := w.heap.size + 2) ?_ (by omega)
    repeat (refine OwnD.far ?_ (by simp) _)
    exact O6.out
  · repeat (refine Below.setCell ?_ (by simp) _)
    exact B6.out
end Go.Proofs.YtemjipongehjlaaGreat
/- What SameDests says of dests and their like. -/
namespace Go.Proofs.YtemjipongehjlaaGreat
set_option linter.unusedVariables false
open Go.RowKit Go.BigFrame
theorem dest_held : Tryz.prog.stoodInHeld 67 = false := by kernel_rfl
theorem dest_fields : ∃ g0 g1 g2 g3 g4 g5 g6 g7 g8 : Field, Tryz.prog.underlying 67 = some (.struct #[g0, g1, g2, g3, g4, g5, g6, g7, g8]) ∧ (g0.type = 9 ∧ g0.offset = 0 ∧ (g0.name ≠ "_")) ∧ (g1.type = 3 ∧ g1.offset = 1 ∧ (g1.name ≠ "_")) ∧ (g2.type = 4 ∧ g2.offset = 2 ∧ (g2.name ≠ "_")) ∧ (g3.type = 3 ∧ g3.offset = 3 ∧ (g3.name ≠ "_")) ∧ (g4.type = 9 ∧ g4.offset = 4 ∧ (g4.name ≠ "_")) ∧ (g5.type = 3 ∧ g5.offset = 5 ∧ (g5.name ≠ "_")) ∧ (g6.type = 3 ∧ g6.offset = 6 ∧ (g6.name ≠ "_")) ∧ (g7.type = 3 ∧ g7.offset = 7 ∧ (g7.name ≠ "_")) ∧ (g8.type = 9 ∧ g8.offset = 8 ∧ (g8.name ≠ "_")) :=
  ⟨_, _, _, _, _, _, _, _, _, Tryz.underlying67, ⟨rfl, rfl, by decide⟩, ⟨rfl, rfl, by decide⟩, ⟨rfl, rfl, by decide⟩, ⟨rfl, rfl, by decide⟩, ⟨rfl, rfl, by decide⟩, ⟨rfl, rfl, by decide⟩, ⟨rfl, rfl, by decide⟩, ⟨rfl, rfl, by decide⟩, ⟨rfl, rfl, by decide⟩⟩
theorem eql_dest (d : P.Dest) (W : World) : (binOp .eql 67 (.agg #[.string d.name, .int .i64 d.chain, .bool d.file, .int .i64 d.port, .string d.dir, .int .i64 d.retry, .int .i64 d.backoff, .int .i64 d.timeout, .string d.response]) (.agg #[.string d.name, .int .i64 d.chain, .bool d.file, .int .i64 d.port, .string d.dir, .int .i64 d.retry, .int .i64 d.backoff, .int .i64 d.timeout, .string d.response])).run Tryz.prog W = .ok (.bool true) W := by
  obtain ⟨g0, g1, g2, g3, g4, g5, g6, g7, g8, hu, ⟨t0, o0, n0⟩, ⟨t1, o1, n1⟩, ⟨t2, o2, n2⟩, ⟨t3, o3, n3⟩, ⟨t4, o4, n4⟩, ⟨t5, o5, n5⟩, ⟨t6, o6, n6⟩, ⟨t7, o7, n7⟩, ⟨t8, o8, n8⟩⟩ := dest_fields
  have hf : Tryz.prog.fieldsOf 67 = #[g0, g1, g2, g3, g4, g5, g6, g7, g8] := by simp [Program.fieldsOf, hu]
  rw [run_eql_struct, run_equalIn_struct W 9999 _ _ _ (by rw [hu, hf]) dest_held, hf]
  simp [Op.eqFields, n0, n1, n2, n3, n4, n5, n6, n7, n8, t0, t1, t2, t3, t4, t5, t6, t7, t8, o0, o1, o2, o3, o4, o5, o6, o7, o8, go_sem]
set_option maxRecDepth 100000 in
set_option maxHeartbeats 4000000 in
theorem sameDests_any (A : Option Addr) (m cp : Nat) (ls : List P.Dest) (Ab : Option Addr) (cpb : Nat) (B : Nat) (w : World)
    (ha : DestsAt w B A m ls) (hb : DestsAt w B Ab m ls) (hB : B ≤ w.heap.size) (hm : m ≤ maxLen) :
    Calls Tryz.prog 47 #[.slice A m cp, .slice Ab m cpb] w fun e w' => e = .returned (.bool true) ∧ Below w.heap.size w w' := by
  unfold maxLen at hm
  have HA := Lib.hid ha
  have HBB := Lib.hid hb
  have t8 : ((m : Int) != (m : Int)) = false := by simp
  clear ha hb
  go_enter Tryz.func47, Tryz.ntmps47
  go_wp2_with fail
  clear t8
  go_loopw [5] (fun x wr => ∃ k : Nat, k ≤ m ∧ x = .int .i64 k ∧ Below w.heap.size w wr) (fun x _ => m - (intOf x).toNat)
  case atStart => exact ⟨0, by omega, rfl, Below.refl _ _⟩
  case round =>
    obtain ⟨k, hk, rfl, hbel⟩ := hrel
    have HB := Lib.hid hbel
    clear hbel
    by_cases hlt : k < m
    · have v1 : decide ((k : Int) < (m : Int)) = true := by simp; omega
      obtain ⟨ad, x, rfl, hxb, hxk, x0, x1, x2, x3, x4, x5, x6, x7, x8⟩ := (HA.out.below (HB.out.mono hB)).in_ hlt
      obtain ⟨ad2, y, rfl, hyb, hyk, y0, y1, y2, y3, y4, y5, y6, y7, y8⟩ := (HBB.out.below (HB.out.mono hB)).in_ hlt
      obtain rfl : y = x := Option.some.inj (hyk.symm.trans hxk)
      have nq := fun W => eql_dest y W
      clear hxk hyk hxb hyb
      go_wp2_with fail
      go_quiet (fail)
      go_wp2
      go_roundw
      case rel => exact ⟨k + 1, by omega, by go_num, below_drewN HB.out _⟩
      case measure => simp [intOf]; omega
    · have v1 : decide ((k : Int) < (m : Int)) = false := by simp; omega
      go_wp2
      go_ret
      exact ⟨rfl, HB.out⟩
end Go.Proofs.YtemjipongehjlaaGreat
/- What stays says of a channel and its like. -/
namespace Go.Proofs.YtemjipongehjlaaGreat
set_option linter.unusedVariables false
open Go.RowKit Go.BigFrame
set_option maxRecDepth 100000 in
set_option maxHeartbeats 4000000 in
theorem staysD_any (cn cd cpre cfil ctr : ByteArray) (cf : Bool) (cpt crt : Int) (g m cp : Nat) (ls : List P.Dest) (Ab : Option Addr) (cpb : Nat) (B : Nat) (w : World)
    (ha : DestsAt w B (some ⟨g, 0, none⟩) m ls) (hmark : w.cell? ⟨g, m * 9, none⟩ = some (.string ⟨#[109, 97, 114, 107]⟩)) (hg : g < w.heap.size) (hcp : m + 1 ≤ cp) (hcm : cp ≤ maxLen) (hb : DestsAt w B Ab m ls) (hB : B ≤ w.heap.size) :
    Calls Tryz.prog 22 #[.agg #[.string cn, .bool cf, .int .i64 cpt, .string cd, .string cpre, .string cfil, .string ctr, .slice (some ⟨g, 0, none⟩) m cp, .int .i64 crt], .agg #[.string cn, .bool cf, .int .i64 cpt, .string cd, .string cpre, .string cfil, .string ctr, .slice Ab m cpb, .int .i64 crt]] w fun e w' => e = .returned (.bool true) ∧ Below w.heap.size w w' := by
  have hcm' := hcm
  unfold maxLen at hcm'
  have hbel := ((Below.refl w.heap.size w).alloc (Nat.le_refl _) (.cells #[.string cn, .bool cf, .int .i64 cpt, .string cd, .string cpre, .string cfil, .string ctr, .slice (some ⟨g, 0, none⟩) m cp, .int .i64 crt] 24)).alloc (by simp) (.cells #[.string cn, .bool cf, .int .i64 cpt, .string cd, .string cpre, .string cfil, .string ctr, .slice Ab m cpb, .int .i64 crt] 24)
  have k0 := (Blk.new w 24 #[.string cn, .bool cf, .int .i64 cpt, .string cd, .string cpre, .string cfil, .string ctr, .slice (some ⟨g, 0, none⟩) m cp, .int .i64 crt]).alloc (.cells #[.string cn, .bool cf, .int .i64 cpt, .string cd, .string cpre, .string cfil, .string ctr, .slice Ab m cpb, .int .i64 crt] 24)
  have k1 := Blk.new (w.alloc (.cells #[.string cn, .bool cf, .int .i64 cpt, .string cd, .string cpre, .string cfil, .string ctr, .slice (some ⟨g, 0, none⟩) m cp, .int .i64 crt] 24)) 24 #[.string cn, .bool cf, .int .i64 cpt, .string cd, .string cpre, .string cfil, .string ctr, .slice Ab m cpb, .int .i64 crt]
  rw [show (w.alloc (.cells #[.string cn, .bool cf, .int .i64 cpt, .string cd, .string cpre, .string cfil, .string ctr, .slice (some ⟨g, 0, none⟩) m cp, .int .i64 crt] 24)).heap.size = w.heap.size + 1 from by simp] at k1
  have hmk := (hbel.cell (p := ⟨g, m * 9, none⟩) hg).trans hmark
  have ha2 := (ha.below (hbel.mono hB)).more (Nat.le_trans hB hbel.size)
  have hb2 := (hb.below (hbel.mono hB)).more (Nat.le_trans hB hbel.size)
  have hg2 := Nat.lt_of_lt_of_le hg hbel.size
  obtain ⟨w2, hw2⟩ : ∃ w2, w2 = ((w.alloc (.cells #[.string cn, .bool cf, .int .i64 cpt, .string cd, .string cpre, .string cfil, .string ctr, .slice (some ⟨g, 0, none⟩) m cp, .int .i64 crt] 24)).alloc (.cells #[.string cn, .bool cf, .int .i64 cpt, .string cd, .string cpre, .string cfil, .string ctr, .slice Ab m cpb, .int .i64 crt] 24)) := ⟨_, rfl⟩
  rw [← hw2] at hbel k0 k1 hmk ha2 hb2 hg2
  have SR : ∀ x : Ext w2, Calls Tryz.prog 47 #[.slice (some ⟨g, 0, none⟩) m cp, .slice Ab m cpb] x.wd fun e w' => e = .returned (.bool true) ∧ Below x.wd.heap.size x.wd w' := fun x =>
    sameDests_any (some ⟨g, 0, none⟩) m cp ls Ab cpb x.wd.heap.size x.wd ((ha2.below x.hb).more x.hb.size) ((hb2.below x.hb).more x.hb.size) (Nat.le_refl _) (by omega)
  have cellA : ∀ x : Ext w2, ∀ i, x.wd.cell? ⟨w.heap.size, i, none⟩ = (#[.string cn, .bool cf, .int .i64 cpt, .string cd, .string cpre, .string cfil, .string ctr, .slice (some ⟨g, 0, none⟩) m cp, .int .i64 crt] : Array Value)[i]? := fun x i => by rw [x.cell k0.lt, k0.cell]
  have cellB : ∀ x : Ext w2, ∀ i, x.wd.cell? ⟨w.heap.size + 1, i, none⟩ = (#[.string cn, .bool cf, .int .i64 cpt, .string cd, .string cpre, .string cfil, .string ctr, .slice Ab m cpb, .int .i64 crt] : Array Value)[i]? := fun x i => by rw [x.cell k1.lt, k1.cell]
  have cellM : ∀ x : Ext w2, x.wd.cell? ⟨g, m * 9, none⟩ = some (.string ⟨#[109, 97, 114, 107]⟩) := fun x => by rw [x.cell hg2, hmk]
  have t0 : ((m : Int) == (m : Int)) = true := by simp
  have SR := Lib.hid SR
  have BX := Lib.hid hbel
  have HW := Lib.hid hw2
  clear ha hb hmark hbel k0 k1 ha2 hb2 hmk hw2
  go_enter Tryz.func22, Tryz.ntmps22
  go_wp2_with fail
  rw [← HW.out]
  refine wp_region_ext (by kernel_rfl) (by kernel_rfl) ?_
  repeat (first | go_big_quiet_step ((go_at_call 47; exact Ext.calls _ (SR.out _))) | quiet_step ((go_at_call 47; exact Ext.calls _ (SR.out _))))
  refine wpQuiet_nil ?_
  intro w3 hb3
  have B3 := Lib.hid (BX.out.trans (hb3.mono BX.out.size))
  clear hb3 cellA cellB cellM
  go_wp2
  go_ret
  exact ⟨rfl, B3.out⟩
end Go.Proofs.YtemjipongehjlaaGreat
