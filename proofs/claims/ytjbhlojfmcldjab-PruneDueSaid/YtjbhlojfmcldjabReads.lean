/- A slice that reads as a list of cells, nil let in; rows of structs. Plain lemmas. -/
import Derived.Test.YtjbhlojfmcldjabWords
import Derived.Test.YtjbhlojfmcldjabPlainPrune
import Derived.Laws.OwnMore
import Derived.Deep.AppendLies
import Derived.Deep.Draws
import Derived.OwnWalk
namespace Go.Proofs.Ytjbhlojfmcldjab
set_option linter.unusedVariables false
open Go.RowKit
theorem block_of_add (a : Addr) (n : Nat) : (a.add n).block = a.block := by unfold Addr.add; split <;> rfl
theorem add_of_add (a : Addr) (i j : Nat) : (a.add i).add j = a.add (i + j) := by
  unfold Addr.add
  by_cases hi : i = 0 <;> by_cases hj : j = 0 <;> simp [hi, hj, Nat.add_assoc]
/-- The slice value '.slice A n c' reads as the cells xs, 'size' cells an element, below block B. -/
def Reads (w : World) (B size : Nat) (A : Option Addr) (n : Nat) (xs : List Value) : Prop :=
  xs.length = n * size ∧ (0 < n → ∃ ad, A = some ad ∧ ad.block < B ∧ ∀ j u, xs[j]? = some u → w.cell? (ad.add j) = some u)
section
variable {w w' : World} {B B' size n : Nat} {A : Option Addr} {xs : List Value}
theorem Reads.nil : Reads w B size A 0 [] := ⟨by simp, fun h => absurd h (by omega)⟩
theorem Reads.keep (h : Reads w B size A n xs) (hk : ∀ p : Addr, p.block < B → w'.cell? p = w.cell? p) : Reads w' B size A n xs :=
  ⟨h.1, fun hn => by
    obtain ⟨ad, e, hb, hc⟩ := h.2 hn
    exact ⟨ad, e, hb, fun j u hu => (hk _ (by rw [block_of_add]; exact hb)).trans (hc j u hu)⟩⟩
theorem Reads.more (h : Reads w B size A n xs) (hB : B ≤ B') : Reads w B' size A n xs :=
  ⟨h.1, fun hn => by
    obtain ⟨ad, e, hb, hc⟩ := h.2 hn
    exact ⟨ad, e, by omega, hc⟩⟩
theorem Reads.below (h : Reads w B size A n xs) (hb : Below B w w') : Reads w' B size A n xs := h.keep fun _ hp => hb.cell hp
theorem Reads.alloc (h : Reads w B size A n xs) (hB : B ≤ w.heap.size) (o : Obj) : Reads (w.alloc o) B size A n xs := h.keep fun p hp => World.cell?_alloc_lt w o p (by omega)
theorem Reads.of_own {base : Nat} {e : TypeId} {c : Nat} (h : w.ownsRow base e size (.slice A n c) n xs) : Reads w w.heap.size size A n xs := by
  refine ⟨h.1, fun hn => ?_⟩
  obtain ⟨g, cap, hv, _, hlt⟩ := h.form hn
  have hA : A = some ⟨g, 0, none⟩ := by injection hv
  subst hA
  exact ⟨_, rfl, hlt, h.cells (g := g) rfl⟩
end
theorem flat_len {α : Type} (f : α → List Value) (k : Nat) (hf : ∀ x, (f x).length = k) : ∀ l : List α, (l.flatMap f).length = l.length * k
  | [] => by simp
  | x :: l => by rw [List.flatMap_cons, List.length_append, hf, flat_len f k hf l, List.length_cons, Nat.add_mul]; omega
theorem flat_get {α : Type} (f : α → List Value) (k : Nat) (hf : ∀ x, (f x).length = k) : ∀ (l : List α) (i j : Nat) (hi : i < l.length), j < k → (l.flatMap f)[i * k + j]? = (f l[i])[j]?
  | x :: l, 0, j, _, hj => by
    rw [List.flatMap_cons, Nat.zero_mul, Nat.zero_add, List.getElem?_append_left (by rw [hf]; exact hj)]
    rfl
  | x :: l, i + 1, j, hi, hj => by
    rw [List.flatMap_cons, List.getElem?_append_right (by rw [hf, Nat.add_mul]; omega), hf]
    have := flat_get f k hf l i j (by simpa using hi) hj
    rw [show (i + 1) * k + j - k = i * k + j from by rw [Nat.add_mul]; omega, this]
    rfl
theorem leg_len (l : P.Leg) : l.cells.length = 6 := rfl
theorem dest_len (d : P.Dest) : d.cells.length = 9 := rfl
def LegsAt (w : World) (B : Nat) (A : Option Addr) (m : Nat) (ls : List P.Leg) : Prop := Reads w B 6 A m (ls.flatMap P.Leg.cells)
def DestsAt (w : World) (B : Nat) (A : Option Addr) (n : Nat) (ds : List P.Dest) : Prop := Reads w B 9 A n (ds.flatMap P.Dest.cells)
section
variable {w w' : World} {B B' n : Nat} {A : Option Addr} {ls : List P.Leg} {ds : List P.Dest}
theorem LegsAt.len (h : LegsAt w B A n ls) : ls.length = n := by
  have := h.1
  rw [flat_len _ 6 leg_len] at this
  omega
theorem DestsAt.len (h : DestsAt w B A n ds) : ds.length = n := by
  have := h.1
  rw [flat_len _ 9 dest_len] at this
  omega
theorem LegsAt.below (h : LegsAt w B A n ls) (hb : Below B w w') : LegsAt w' B A n ls := Reads.below h hb
theorem DestsAt.below (h : DestsAt w B A n ds) (hb : Below B w w') : DestsAt w' B A n ds := Reads.below h hb
theorem LegsAt.more (h : LegsAt w B A n ls) (hB : B ≤ B') : LegsAt w B' A n ls := Reads.more h hB
theorem DestsAt.more (h : DestsAt w B A n ds) (hB : B ≤ B') : DestsAt w B' A n ds := Reads.more h hB
theorem cell_add {w : World} {ad : Addr} {i : Nat} (j : Nat) (hj : 0 < j) : w.cell? (ad.add (i + j)) = w.cell? ⟨(ad.add i).block, (ad.add i).off + j, none⟩ := by
  rw [← add_of_add]
  conv => lhs; rw [show (ad.add i).add j = { (ad.add i) with off := (ad.add i).off + j, spot := none } from by rw [Addr.add, if_neg (by omega)]]
/-- A leg's cells. -/
theorem LegsAt.at_ {k : Nat} (h : LegsAt w B A n ls) (hk : k < n) : ∃ ad l, A = some ad ∧ ad.block < B ∧ ls[k]? = some l ∧ ∀ j u, l.cells[j]? = some u → w.cell? (ad.add (k * 6 + j)) = some u := by
  obtain ⟨ad, e, hb, hc⟩ := h.2 (by omega)
  have hl := h.len
  refine ⟨ad, ls[k]'(by omega), e, hb, List.getElem?_eq_getElem (by omega), fun j u hu => ?_⟩
  have hj : j < 6 := by
    rcases Nat.lt_or_ge j 6 with h | h
    · exact h
    · rw [List.getElem?_eq_none (by rw [leg_len]; exact h)] at hu; cases hu
  exact hc _ _ (by rw [flat_get _ 6 leg_len ls k j (by omega) hj]; exact hu)
theorem DestsAt.at_ {k : Nat} (h : DestsAt w B A n ds) (hk : k < n) : ∃ ad d, A = some ad ∧ ad.block < B ∧ ds[k]? = some d ∧ ∀ j u, d.cells[j]? = some u → w.cell? (ad.add (k * 9 + j)) = some u := by
  obtain ⟨ad, e, hb, hc⟩ := h.2 (by omega)
  have hl := h.len
  refine ⟨ad, ds[k]'(by omega), e, hb, List.getElem?_eq_getElem (by omega), fun j u hu => ?_⟩
  have hj : j < 9 := by
    rcases Nat.lt_or_ge j 9 with h | h
    · exact h
    · rw [List.getElem?_eq_none (by rw [dest_len]; exact h)] at hu; cases hu
  exact hc _ _ (by rw [flat_get _ 9 dest_len ds k j (by omega) hj]; exact hu)
/-- A leg's cells as a load spells them. -/
structure LegIn (w : World) (a : Addr) (l : P.Leg) : Prop where
  c0 : w.cell? a = some (.string l.name)
  c1 : w.cell? ⟨a.block, a.off + 1, none⟩ = some (.int .i64 l.status)
  c2 : w.cell? ⟨a.block, a.off + 2, none⟩ = some (.int .i64 l.tries)
  c3 : w.cell? ⟨a.block, a.off + 3, none⟩ = some (.int .i64 l.due)
  c4 : w.cell? ⟨a.block, a.off + 4, none⟩ = some (.string l.payload)
  c5 : w.cell? ⟨a.block, a.off + 5, none⟩ = some (.string l.reply)
structure DestIn (w : World) (a : Addr) (d : P.Dest) : Prop where
  c0 : w.cell? a = some (.string d.name)
  c1 : w.cell? ⟨a.block, a.off + 1, none⟩ = some (.int .i64 d.chain)
  c2 : w.cell? ⟨a.block, a.off + 2, none⟩ = some (.bool d.file)
  c3 : w.cell? ⟨a.block, a.off + 3, none⟩ = some (.int .i64 d.port)
  c4 : w.cell? ⟨a.block, a.off + 4, none⟩ = some (.string d.dir)
  c5 : w.cell? ⟨a.block, a.off + 5, none⟩ = some (.int .i64 d.retry)
  c6 : w.cell? ⟨a.block, a.off + 6, none⟩ = some (.int .i64 d.backoff)
  c7 : w.cell? ⟨a.block, a.off + 7, none⟩ = some (.int .i64 d.timeout)
  c8 : w.cell? ⟨a.block, a.off + 8, none⟩ = some (.string d.response)
theorem LegIn.keep {a : Addr} {l : P.Leg} (h : LegIn w a l) (hb : Below B w w') (ha : a.block < B) : LegIn w' a l :=
  ⟨(hb.cell ha).trans h.c0, (hb.cell (p := ⟨a.block, a.off + 1, none⟩) ha).trans h.c1, (hb.cell (p := ⟨a.block, a.off + 2, none⟩) ha).trans h.c2, (hb.cell (p := ⟨a.block, a.off + 3, none⟩) ha).trans h.c3, (hb.cell (p := ⟨a.block, a.off + 4, none⟩) ha).trans h.c4, (hb.cell (p := ⟨a.block, a.off + 5, none⟩) ha).trans h.c5⟩
theorem DestIn.keep {a : Addr} {d : P.Dest} (h : DestIn w a d) (hb : Below B w w') (ha : a.block < B) : DestIn w' a d :=
  ⟨(hb.cell ha).trans h.c0, (hb.cell (p := ⟨a.block, a.off + 1, none⟩) ha).trans h.c1, (hb.cell (p := ⟨a.block, a.off + 2, none⟩) ha).trans h.c2, (hb.cell (p := ⟨a.block, a.off + 3, none⟩) ha).trans h.c3, (hb.cell (p := ⟨a.block, a.off + 4, none⟩) ha).trans h.c4, (hb.cell (p := ⟨a.block, a.off + 5, none⟩) ha).trans h.c5, (hb.cell (p := ⟨a.block, a.off + 6, none⟩) ha).trans h.c6, (hb.cell (p := ⟨a.block, a.off + 7, none⟩) ha).trans h.c7, (hb.cell (p := ⟨a.block, a.off + 8, none⟩) ha).trans h.c8⟩
theorem LegsAt.in_ {k : Nat} (h : LegsAt w B A n ls) (hk : k < n) : ∃ ad l, A = some ad ∧ (ad.add (k * 6)).block < B ∧ ls[k]? = some l ∧ LegIn w (ad.add (k * 6)) l := by
  obtain ⟨ad, l, rfl, hb, hl, hc⟩ := h.at_ hk
  exact ⟨ad, l, rfl, by rw [block_of_add]; exact hb, hl, hc 0 _ rfl, (cell_add 1 (by omega)).symm.trans (hc 1 _ rfl), (cell_add 2 (by omega)).symm.trans (hc 2 _ rfl), (cell_add 3 (by omega)).symm.trans (hc 3 _ rfl), (cell_add 4 (by omega)).symm.trans (hc 4 _ rfl), (cell_add 5 (by omega)).symm.trans (hc 5 _ rfl)⟩
theorem DestsAt.in_ {k : Nat} (h : DestsAt w B A n ds) (hk : k < n) : ∃ ad d, A = some ad ∧ (ad.add (k * 9)).block < B ∧ ds[k]? = some d ∧ DestIn w (ad.add (k * 9)) d := by
  obtain ⟨ad, d, rfl, hb, hl, hc⟩ := h.at_ hk
  exact ⟨ad, d, rfl, by rw [block_of_add]; exact hb, hl, hc 0 _ rfl, (cell_add 1 (by omega)).symm.trans (hc 1 _ rfl), (cell_add 2 (by omega)).symm.trans (hc 2 _ rfl), (cell_add 3 (by omega)).symm.trans (hc 3 _ rfl), (cell_add 4 (by omega)).symm.trans (hc 4 _ rfl), (cell_add 5 (by omega)).symm.trans (hc 5 _ rfl), (cell_add 6 (by omega)).symm.trans (hc 6 _ rfl), (cell_add 7 (by omega)).symm.trans (hc 7 _ rfl), (cell_add 8 (by omega)).symm.trans (hc 8 _ rfl)⟩
end
end Go.Proofs.Ytjbhlojfmcldjab
