/- Lists of rows; ints that the call itself has gathered. Plain lemmas. -/
import Derived.Test.YtjbhlojfmcldjabPr6
namespace Go.Proofs.Ytjbhlojfmcldjab
set_option linter.unusedVariables false
open Go.RowKit
namespace P
structure RowV where
  id : Int
  run : Int
  time : Int
  state : Int
  done : Int
  raw : ByteArray
  fault : Int
  A : Option Addr
  m : Nat
  cp : Nat
  legs : List Leg
def RowV.cells (r : RowV) : List Value := [.int .i64 r.id, .int .i64 r.run, .int .i64 r.time, .int .i64 r.state, .int .i64 r.done, .string r.raw, .int .i64 r.fault, .slice r.A r.m r.cp]
/-- Is a time that is not below 0 so old? -/
def old (done now ret : Int) : Bool := if ret < 0 then decide (done + ret ≤ now) else if now < 0 then false else decide (done ≤ now - ret)
def mayGo (now ret : Int) (r : RowV) : Bool := ret != 0 && (terminal r.state r.legs && (decide (0 ≤ r.done) && old r.done now ret))
def due (now ret : Int) (rows : List RowV) : List Int := (rows.filter (mayGo now ret)).map RowV.id
theorem due_step {now ret : Int} {rows : List RowV} {k : Nat} {r : RowV} (h : rows[k]? = some r) : due now ret (rows.take (k + 1)) = due now ret (rows.take k) ++ (if mayGo now ret r = true then [r.id] else []) := by
  unfold due
  rw [List.take_add_one, h, List.filter_append, List.map_append]
  congr 1
  cases hh : mayGo now ret r <;> simp [hh]
theorem due_le (now ret : Int) (rows : List RowV) : (due now ret rows).length ≤ rows.length := by
  unfold due
  rw [List.length_map]
  exact List.length_filter_le _ _
end P
theorem row_len (r : P.RowV) : r.cells.length = 8 := rfl
structure RowsAt (w : World) (B : Nat) (A : Option Addr) (n : Nat) (rs : List P.RowV) : Prop where
  reads : Reads w B 8 A n (rs.flatMap P.RowV.cells)
  legs : ∀ r ∈ rs, LegsAt w B r.A r.m r.legs ∧ r.m ≤ maxLen
/-- A row's cells as a load spells them. -/
structure RowIn (w : World) (a : Addr) (r : P.RowV) : Prop where
  c0 : w.cell? a = some (.int .i64 r.id)
  c1 : w.cell? ⟨a.block, a.off + 1, none⟩ = some (.int .i64 r.run)
  c2 : w.cell? ⟨a.block, a.off + 2, none⟩ = some (.int .i64 r.time)
  c3 : w.cell? ⟨a.block, a.off + 3, none⟩ = some (.int .i64 r.state)
  c4 : w.cell? ⟨a.block, a.off + 4, none⟩ = some (.int .i64 r.done)
  c5 : w.cell? ⟨a.block, a.off + 5, none⟩ = some (.string r.raw)
  c6 : w.cell? ⟨a.block, a.off + 6, none⟩ = some (.int .i64 r.fault)
  c7 : w.cell? ⟨a.block, a.off + 7, none⟩ = some (.slice r.A r.m r.cp)
section
variable {w w' : World} {B B' n : Nat} {A : Option Addr} {rs : List P.RowV}
theorem RowsAt.len (h : RowsAt w B A n rs) : rs.length = n := by
  have := h.reads.1
  rw [flat_len _ 8 row_len] at this
  omega
theorem RowsAt.below (h : RowsAt w B A n rs) (hb : Below B w w') : RowsAt w' B A n rs := ⟨Reads.below h.reads hb, fun r hr => ⟨(h.legs r hr).1.below hb, (h.legs r hr).2⟩⟩
theorem RowsAt.more (h : RowsAt w B A n rs) (hB : B ≤ B') : RowsAt w B' A n rs := ⟨Reads.more h.reads hB, fun r hr => ⟨(h.legs r hr).1.more hB, (h.legs r hr).2⟩⟩
theorem RowsAt.in_ {k : Nat} (h : RowsAt w B A n rs) (hk : k < n) : ∃ ad r, A = some ad ∧ (ad.add (k * 8)).block < B ∧ rs[k]? = some r ∧ LegsAt w B r.A r.m r.legs ∧ r.m ≤ maxLen ∧ RowIn w (ad.add (k * 8)) r := by
  obtain ⟨ad, e, hb, hc⟩ := h.reads.2 (by omega)
  have hl := h.len
  have hr : rs[k]? = some (rs[k]'(by omega)) := List.getElem?_eq_getElem (by omega)
  obtain ⟨h1, h2⟩ := h.legs _ (List.mem_of_getElem? hr)
  have hcc : ∀ j, j < 8 → ∀ u, (rs[k]'(by omega)).cells[j]? = some u → w.cell? (ad.add (k * 8 + j)) = some u := fun j hj u hu => hc _ _ (by rw [flat_get _ 8 row_len rs k j (by omega) hj]; exact hu)
  exact ⟨ad, rs[k]'(by omega), e, by rw [block_of_add]; exact hb, hr, h1, h2, hcc 0 (by omega) _ rfl, (cell_add 1 (by omega)).symm.trans (hcc 1 (by omega) _ rfl), (cell_add 2 (by omega)).symm.trans (hcc 2 (by omega) _ rfl), (cell_add 3 (by omega)).symm.trans (hcc 3 (by omega) _ rfl), (cell_add 4 (by omega)).symm.trans (hcc 4 (by omega) _ rfl), (cell_add 5 (by omega)).symm.trans (hcc 5 (by omega) _ rfl), (cell_add 6 (by omega)).symm.trans (hcc 6 (by omega) _ rfl), (cell_add 7 (by omega)).symm.trans (hcc 7 (by omega) _ rfl)⟩
end
/-- A list of one row, newly laid. -/
theorem RowsAt.one {w : World} {B : Nat} (r : P.RowV) (h : LegsAt w B r.A r.m r.legs) (hm : r.m ≤ maxLen) (hB : B ≤ w.heap.size) :
    RowsAt (w.alloc (.cells r.cells.toArray 33)) (w.heap.size + 1) (some ⟨w.heap.size, 0, none⟩) 1 [r] := by
  refine ⟨⟨by simp [row_len], fun _ => ⟨_, rfl, by simp, fun j u hu => ?_⟩⟩, fun x hx => ?_⟩
  · rw [Addr.add_lit, Nat.zero_add, (Blk.new w 33 r.cells.toArray).cell, List.getElem?_toArray]
    simpa using hu
  · obtain rfl : x = r := by simpa using hx
    exact ⟨(h.below ((Below.refl _ _).alloc hB _)).more (by omega), hm⟩
/-- Ints that the call itself has gathered. -/
def OwnI (w : World) (B : Nat) (v : Value) (l : List Int) : Prop := w.ownsRow B 3 1 v l.length (l.map (Value.int .i64))
theorem infoInt : (Try.prog.info? 3).map (fun i => (i.zero, i.size, i.bytes)) = some (some (.int .i64 0), 1, 8) := by kernel_rfl
section
variable {w w' : World} {B B' : Nat} {v : Value} {l : List Int}
theorem OwnI.nil (w : World) (B : Nat) : OwnI w B (.slice none 0 0) [] := World.ownsRow_nil _ _ _ _
theorem OwnI.alloc (h : OwnI w B v l) (o : Obj) : OwnI (w.alloc o) B v l := World.ownsRow.alloc h o
theorem OwnI.below {C : Nat} (h : OwnI w B v l) (hb : Below C w w') (hC : w.heap.size ≤ C) : OwnI w' B v l := by
  obtain ⟨h1, h2⟩ := h
  refine ⟨h1, ?_⟩
  rcases h2 with h2 | ⟨g, cap, cur, hv, hg, hh, r⟩
  · exact .inl h2
  · have hlt : g < w.heap.size := by
      rcases Nat.lt_or_ge g w.heap.size with h | h
      · exact h
      · rw [Array.getElem?_eq_none h] at hh; cases hh
    exact .inr ⟨g, cap, cur, hv, hg, by rw [hb.block g (by omega)]; exact hh, r⟩
theorem OwnI.less (h : OwnI w B v l) (hB : B' ≤ B) : OwnI w B' v l := by
  obtain ⟨h1, h2⟩ := h
  refine ⟨h1, ?_⟩
  rcases h2 with h2 | ⟨g, cap, cur, hv, hg, r⟩
  · exact .inl h2
  · exact .inr ⟨g, cap, cur, hv, Nat.le_trans hB hg, r⟩
theorem OwnI.form (h : OwnI w B v l) : ∃ A c, v = .slice A l.length c := by
  rcases h.2 with ⟨rfl, hn⟩ | ⟨g, cap, cur, rfl, hg, hh, r⟩
  · exact ⟨none, 0, by rw [hn]⟩
  · exact ⟨_, _, rfl⟩
theorem newsI (w : World) (t : TypeId) (s : Int) : ∀ j u, [s][j]? = some u → (w.alloc (.cells #[.int .i64 s] t)).cell? ((⟨w.heap.size, 0, none⟩ : Addr).add j) = some (Value.int .i64 u) := by
  intro j u hu
  match j, hu with
  | 0, hu =>
    cases hu
    rw [Addr.add_lit, Nat.zero_add, (Blk.new w t #[.int .i64 s]).cell]
    rfl
theorem newsI1 (w : World) (o : Obj) (t : TypeId) (s : Int) : ∀ j u, [s][j]? = some u → ((w.alloc o).alloc (.cells #[.int .i64 s] t)).cell? ((⟨w.heap.size + 1, 0, none⟩ : Addr).add j) = some (Value.int .i64 u) := by
  have := newsI (w.alloc o) t s
  rw [show (w.alloc o).heap.size = w.heap.size + 1 from by simp] at this
  exact this
theorem wpList_append_int1 {w : World} {ops : Array Oper} {rest : List Oper} {o : Oper} {a : Act} {Q : Exit → Act → World → Prop} (hgd : o.guard = none) (s x : Operand)
    (ho : o.op = .call { callee := .builtin .append, args := #[s, x], argTypes := #[26, 26] })
    (B : Nat) (v : Value) (l : List Int) (hs : a.eval s = v) (hown : OwnI w B v l)
    (ad : Addr) (u : Int) (hx : a.eval x = .slice (some ad) 1 1) (hnews : ∀ j z, [u][j]? = some z → w.cell? (ad.add j) = some (Value.int .i64 z))
    (hbytes : l.length + 1 ≤ 8796093022208) (hbase : B ≤ w.heap.size)
    (h : ∀ v' w', OwnI w' B v' (l ++ [u]) → Below B w w' → w.grownBy w' v.ownBlock → wpList Try.prog ops Q rest (a.put o.dst v') w') : wpList Try.prog ops Q (o :: rest) a w := by
  obtain ⟨i, hi, hz, hs1, hb1⟩ := info_parts infoInt
  refine wpList_append_own w hgd s x 26 ho B 3 i (.int .i64 0) 1 8 Try.underlying26 hi hz hs1 hb1 rfl (by omega) v l.length (l.map (Value.int .i64)) hs hown ad 1 1 [Value.int .i64 u] hx (by simp)
    (fun j z hz => by
      rw [show [Value.int .i64 u] = [u].map (Value.int .i64) from rfl, List.getElem?_map] at hz
      obtain ⟨b, hb, rfl⟩ := Option.map_eq_some_iff.1 hz
      exact hnews j b hb) (by intro z hz; simp at hz; subst hz; rfl) (by unfold maxLen; omega) (by omega) hbase ?_
  intro v' w' hown' hg _
  refine h v' w' ?_ ((Below.refl _ _).grown hg hbase (fun k hk => (World.ownsRow.lt hown k hk).1)) hg
  unfold OwnI
  rw [List.length_append, List.map_append]
  exact hown'
end
/-- The call hands back ints of its own; what was there stands. -/
def GivesI (w : World) (l : List Int) (x : Ending) (w' : World) : Prop := ∃ v, x = .returned v ∧ OwnI w' w.heap.size v l ∧ Below w.heap.size w w'
end Go.Proofs.Ytjbhlojfmcldjab
