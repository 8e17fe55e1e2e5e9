/- Rows that the call itself has gathered; rows that were lent. Plain lemmas. -/
import Derived.Test.YtjbhlojfmcldjabLent
import Derived.Test.YtjbhlojfmcldjabOld1
namespace Go.Proofs.Ytjbhlojfmcldjab
set_option linter.unusedVariables false
open Go Go.RowKit
/-- Rows that the call itself has gathered. -/
def OwnR (w : World) (B : Nat) (v : Value) (l : List P.RowV) : Prop := w.ownsRow B 33 8 v l.length (l.flatMap P.RowV.cells)
theorem infoRow : (Try.prog.info? 33).map (fun i => (i.zero, i.size, i.bytes)) = some (some (.agg #[.int .i64 0, .int .i64 0, .int .i64 0, .int .i64 0, .int .i64 0, .string ByteArray.empty, .int .i64 0, .slice none 0 0]), 8, 88) := by kernel_rfl
theorem row_one (l : P.RowV) : ∀ u ∈ l.cells, u.oneCell' = true := by
  intro u hu
  simp [P.RowV.cells] at hu
  rcases hu with rfl | rfl | rfl | rfl | rfl | rfl | rfl | rfl <;> rfl
section
variable {w w' : World} {B B' : Nat} {v : Value} {l : List P.RowV}
theorem OwnR.nil (w : World) (B : Nat) : OwnR w B (.slice none 0 0) [] := World.ownsRow_nil _ _ _ _
theorem OwnR.alloc (h : OwnR w B v l) (o : Obj) : OwnR (w.alloc o) B v l := World.ownsRow.alloc h o
theorem OwnR.stays (h : OwnR w B v l) (k : Stays w w') : OwnR w' B v l := by
  obtain ⟨h1, h2⟩ := h
  refine ⟨h1, ?_⟩
  rcases h2 with h2 | ⟨g, cap, cur, hv, hg, hh, r⟩
  · exact .inl h2
  · have hlt : g < w.heap.size := by
      rcases Nat.lt_or_ge g w.heap.size with h | h
      · exact h
      · rw [Array.getElem?_eq_none h] at hh; cases hh
    exact .inr ⟨g, cap, cur, hv, hg, by rw [k.block g hlt]; exact hh, r⟩
theorem OwnR.reads (h : OwnR w B v l) : ∃ A c, v = .slice A l.length c ∧ Reads w w.heap.size 8 A l.length (l.flatMap P.RowV.cells) := by
  rcases h.2 with ⟨rfl, hn⟩ | ⟨g, cap, cur, rfl, hg, hh, r⟩
  · exact ⟨none, 0, by rw [hn], by rw [hn, List.eq_nil_of_length_eq_zero hn]; exact Reads.nil⟩
  · exact ⟨_, _, rfl, Reads.of_own h⟩
/-- Legs of the call's own stand where rows of its own grow. -/
theorem OwnL.beside {v2 : Value} {ls : List P.Leg} (h : OwnL w B v2 ls) (hr : OwnR w B' v l) (hg : w.grownBy w' v.ownBlock) : OwnL w' B v2 ls := by
  refine World.ownsRow.kept h hg ?_
  rcases h.2 with ⟨rfl, _⟩ | ⟨g, cap, cur, rfl, _, hh, _⟩
  · left; rfl
  · right
    rcases hr.2 with ⟨rfl, _⟩ | ⟨g', cap', cur', rfl, _, hh', _⟩
    · simp [Value.ownBlock]
    · intro e
      have : g = g' := by simpa [Value.ownBlock] using e
      subst this
      rw [hh] at hh'
      injection hh' with hh'
      injection hh' with _ ht
      exact absurd ht (by decide)
theorem wpList_append_row1 {w : World} {ops : Array Oper} {rest : List Oper} {o : Oper} {a : Act} {Q : Exit → Act → World → Prop} (hgd : o.guard = none) (s x : Operand)
    (ho : o.op = .call { callee := .builtin .append, args := #[s, x], argTypes := #[45, 45] })
    (B : Nat) (v : Value) (l : List P.RowV) (hs : a.eval s = v) (hown : OwnR w B v l)
    (ad : Addr) (u : P.RowV) (hx : a.eval x = .slice (some ad) 1 1) (hnews : ∀ j z, u.cells[j]? = some z → w.cell? (ad.add j) = some z)
    (hbytes : l.length + 1 ≤ 1000000) (hbase : B ≤ w.heap.size)
    (h : ∀ v' w', OwnR w' B v' (l ++ [u]) → Below B w w' → w.grownBy w' v.ownBlock → wpList Try.prog ops Q rest (a.put o.dst v') w') : wpList Try.prog ops Q (o :: rest) a w := by
  obtain ⟨i, hi, hz, hs1, hb1⟩ := info_parts infoRow
  refine wpList_append_own w hgd s x 45 ho B 33 i _ 8 88 Try.underlying45 hi hz hs1 hb1 rfl (by omega) v l.length (l.flatMap P.RowV.cells) hs hown ad 1 1 u.cells hx (by rw [row_len])
    hnews (row_one u) (by unfold maxLen; omega) (by omega) hbase ?_
  intro v' w' hown' hg _
  refine h v' w' ?_ ((Below.refl _ _).grown hg hbase (fun k hk => (World.ownsRow.lt hown k hk).1)) hg
  unfold OwnR
  rw [List.length_append, List.flatMap_append, List.flatMap_cons, List.flatMap_nil, List.append_nil]
  exact hown'
end
theorem newsR (w : World) (t : TypeId) (r : P.RowV) : ∀ j u, r.cells[j]? = some u → (w.alloc (.cells #[.int .i64 r.id, .int .i64 r.run, .int .i64 r.time, .int .i64 r.state, .int .i64 r.done, .string r.raw, .int .i64 r.fault, .slice r.A r.m r.cp] t)).cell? ((⟨w.heap.size, 0, none⟩ : Addr).add j) = some u := by
  intro j u hu
  rw [Addr.add_lit, Nat.zero_add, (Blk.new w t #[.int .i64 r.id, .int .i64 r.run, .int .i64 r.time, .int .i64 r.state, .int .i64 r.done, .string r.raw, .int .i64 r.fault, .slice r.A r.m r.cp]).cell, show (#[.int .i64 r.id, .int .i64 r.run, .int .i64 r.time, .int .i64 r.state, .int .i64 r.done, .string r.raw, .int .i64 r.fault, .slice r.A r.m r.cp] : Array Value) = r.cells.toArray from rfl, List.getElem?_toArray]
  exact hu
/-- A row that was lent of another one. -/
def LentOf (w : World) (C : Nat) (r r' : P.RowV) : Prop := ∃ g cap, r' = { r with A := some ⟨g, 0, none⟩, cp := cap } ∧ OwnL w C (.slice (some ⟨g, 0, none⟩) (r.m + 1) cap) (r.legs ++ [markLeg])
theorem LentOf.stays {w w' : World} {C : Nat} {r r' : P.RowV} (h : LentOf w C r r') (k : Stays w w') : LentOf w' C r r' := by
  obtain ⟨g, cap, e, ho⟩ := h
  exact ⟨g, cap, e, ho.stays k⟩
theorem LentOf.beside {w w' : World} {C B' : Nat} {r r' : P.RowV} {v : Value} {l : List P.RowV} (h : LentOf w C r r') (hr : OwnR w B' v l) (hg : w.grownBy w' v.ownBlock) : LentOf w' C r r' := by
  obtain ⟨g, cap, e, ho⟩ := h
  exact ⟨g, cap, e, ho.beside hr hg⟩
theorem Reads.front {w : World} {B size n m : Nat} {A : Option Addr} {xs ys : List Value} (h : Reads w B size A n (xs ++ ys)) (hx : xs.length = m * size) (hm : m ≤ n) : Reads w B size A m xs :=
  ⟨hx, fun h0 => by
    obtain ⟨ad, e, hb, hc⟩ := h.2 (by omega)
    refine ⟨ad, e, hb, fun j u hu => hc j u ?_⟩
    have hj : j < xs.length := by
      rcases Nat.lt_or_ge j xs.length with h1 | h1
      · exact h1
      · rw [List.getElem?_eq_none h1] at hu; cases hu
    rw [List.getElem?_append_left hj]
    exact hu⟩
theorem OwnL.front {w : World} {C g m cap : Nat} {ls : List P.Leg} {x : P.Leg} (h : OwnL w C (.slice (some ⟨g, 0, none⟩) (m + 1) cap) (ls ++ [x])) : LegsAt w w.heap.size (some ⟨g, 0, none⟩) m ls ∧ w.cell? ⟨g, m * 6, none⟩ = some (.string x.name) ∧ g < w.heap.size ∧ ls.length = m := by
  have hl := h.len
  have hlm : ls.length = m := by simpa using hl
  have hla := h.legs
  have hlt : g < w.heap.size := by
    obtain ⟨ad, e, hb, _⟩ := hla.2 (by omega)
    cases e
    exact hb
  refine ⟨?_, ?_, hlt, hlm⟩
  · have h2 : Reads w w.heap.size 6 (some ⟨g, 0, none⟩) (m + 1) ((ls ++ [x]).flatMap P.Leg.cells) := hla
    rw [List.flatMap_append] at h2
    exact h2.front (by rw [flat_len _ 6 leg_len, hlm]) (by omega)
  · have hi : (ls ++ [x])[m]? = some x := by rw [List.getElem?_append_right (by omega), hlm]; simp
    exact (h.legIn hi).c0
theorem RowIn.keep {w w' : World} {B : Nat} {a : Addr} {r : P.RowV} (h : RowIn w a r) (hb : Below B w w') (ha : a.block < B) : RowIn w' a r :=
  ⟨(hb.cell ha).trans h.c0, (hb.cell (p := ⟨a.block, a.off + 1, none⟩) ha).trans h.c1, (hb.cell (p := ⟨a.block, a.off + 2, none⟩) ha).trans h.c2, (hb.cell (p := ⟨a.block, a.off + 3, none⟩) ha).trans h.c3, (hb.cell (p := ⟨a.block, a.off + 4, none⟩) ha).trans h.c4, (hb.cell (p := ⟨a.block, a.off + 5, none⟩) ha).trans h.c5, (hb.cell (p := ⟨a.block, a.off + 6, none⟩) ha).trans h.c6, (hb.cell (p := ⟨a.block, a.off + 7, none⟩) ha).trans h.c7⟩
theorem OwnI.stays {w w' : World} {B : Nat} {v : Value} {l : List Int} (h : OwnI w B v l) (k : Stays w w') : OwnI w' B v l := h.below k (Nat.le_refl _)
theorem OwnI.ints {w : World} {B n c : Nat} {A : Option Addr} {l : List Int} (h : OwnI w B (.slice A n c) l) : IntsAt w w.heap.size A n l ∧ l.length = n := by
  have hn : l.length = n := by
    rcases h.2 with ⟨h1, h2⟩ | ⟨g, cap, cur, hv, _⟩
    · injection h1 with _ h3 _
      omega
    · injection hv with _ h3 _
      exact h3.symm
  subst hn
  exact ⟨Reads.of_own h, rfl⟩
/-- Rows, each lent of another one. -/
def LentAll (w : World) (C : Nat) (rs rs' : List P.RowV) : Prop := ∀ (j : Nat) (r r' : P.RowV), rs[j]? = some r → rs'[j]? = some r' → LentOf w C r r'
theorem lent_due {w : World} {C : Nat} (now ret : Int) : ∀ {rs rs' : List P.RowV}, rs'.length = rs.length → LentAll w C rs rs' → P.due now ret rs' = P.due now ret rs
  | [], [], _, _ => rfl
  | r :: rs, r' :: rs', hl, h => by
    obtain ⟨g, cap, e, _⟩ := h 0 r r' rfl rfl
    have ih := lent_due now ret (rs := rs) (rs' := rs') (by simpa using hl) (fun j a b ha hb => h (j + 1) a b (by simpa using ha) (by simpa using hb))
    have hm : P.mayGo now ret r' = P.mayGo now ret r := by rw [e]; rfl
    have hi : r'.id = r.id := by rw [e]
    unfold P.due at *
    rw [List.filter_cons, List.filter_cons, hm]
    split
    · rw [List.map_cons, List.map_cons, ih, hi]
    · exact ih
theorem lent_rows {w : World} {C B : Nat} {v : Value} {rs rs' : List P.RowV} (h : OwnR w B v rs') (hl : rs'.length = rs.length) (ha : LentAll w C rs rs') (hm : ∀ r ∈ rs, r.m ≤ maxLen) : ∃ A c, v = .slice A rs'.length c ∧ RowsAt w w.heap.size A rs'.length rs' := by
  obtain ⟨A, c, hv, hr⟩ := h.reads
  refine ⟨A, c, hv, hr, fun r' hr' => ?_⟩
  obtain ⟨j, hj⟩ := List.getElem?_of_mem hr'
  have hjl : j < rs'.length := by
    rcases Nat.lt_or_ge j rs'.length with h1 | h1
    · exact h1
    · rw [List.getElem?_eq_none h1] at hj; cases hj
  obtain ⟨r, hjr⟩ : ∃ r, rs[j]? = some r := ⟨_, List.getElem?_eq_getElem (by omega)⟩
  have hrm := hm r (List.mem_of_getElem? hjr)
  obtain ⟨g, cap, e, ho⟩ := ha j r r' hjr hj
  rw [e]
  exact ⟨ho.front.1, hrm⟩
end Go.Proofs.Ytjbhlojfmcldjab
