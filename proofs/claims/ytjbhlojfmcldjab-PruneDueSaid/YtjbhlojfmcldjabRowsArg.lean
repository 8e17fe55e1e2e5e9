/- Arguments that are lists of rows: opened. Plain; no conditions. -/
import Derived.Test.YtjbhlojfmcldjabRowArg
import Derived.Test.YtjbhlojfmcldjabDue5
namespace Go.Proofs.Ytjbhlojfmcldjab
set_option linter.unusedVariables false
open Go.Joins Go.ChangeShapes Go.WideShapes Go.RowKit Go.Deep
theorem legs_none {H : Type} {enc : TypeId × Value → H} {w : World} {base : Nat} {spare : Nat → Bool} {held : Bool} {fuel : Nat} {m c : Nat} {x : DataW H × List MemPlace} (h : DataW.trod enc Try.prog w base spare held fuel 29 [.slice none m c] = some x) : m = 0 ∧ c = 0 := by
  rcases open_slice_fields Try.underlying29 Try.underlying40 (by kernel_rfl) (by kernel_rfl) h with ⟨e, hx⟩ | ⟨a, len, cap, m', D, Pl, e, _⟩
  · simpa using e
  · simp at e
/-- What a row of a list holds. -/
structure RowWf (w : World) (r : P.RowV) : Prop where
  legs : LegsAt w w.heap.size r.A r.m r.legs
  len : r.m ≤ maxLen
  none : r.A = none → r.m = 0 ∧ r.cp = 0
  done : (Lit.int .i64 r.done).wf = true
theorem open_rows {H : Type} {enc : TypeId × Value → H} {w : World} {base : Nat} {spare : Nat → Bool} {held : Bool} {r : Reach} {b0 : Nat} {v : Value} {d : DataW H} {p : List MemPlace} (hv : Value.okWide Try.prog w r b0 45 v) (h : DataW.Trod enc Try.prog w base spare held 45 v d p) :
    ∃ (A : Option Addr) (n c : Nat) (rs : List P.RowV), v = .slice A n c ∧ n ≤ maxLen ∧ RowsAt w w.heap.size A n rs ∧ ∀ r ∈ rs, RowWf w r := by
  obtain ⟨a0, len0, cap0, rfl⟩ := okWide_slice Try.underlying45 hv
  obtain ⟨fuel, h⟩ := h
  rcases open_slice_fields Try.underlying45 Try.underlying33 (by kernel_rfl) (by kernel_rfl) h with ⟨e, hx⟩ | ⟨a, len, cap, m, D, Pl, e, _, hlc, hc, hm, hx, hf⟩
  · have e := (List.cons.inj e).1
    exact ⟨none, 0, 0, [], e, Nat.zero_le _, ⟨Reads.nil, fun r hr => by simp at hr⟩, fun r hr => by simp at hr⟩
  · have e := (List.cons.inj e).1
    have hlm : len ≤ m := by rw [hm]; split <;> omega
    obtain ⟨rs, hl, hq⟩ := list_of (Q := fun i (r : P.RowV) => (∀ j u, r.cells[j]? = some u → w.cell? (a.add (i * 8 + j)) = some u) ∧ RowWf w r) len fun i hi => by
      obtain ⟨ys, n, _, _, _, hg⟩ := hf i (by omega)
      obtain ⟨v0, y0, c0, _, t0⟩ := hg 0 _ rfl
      obtain ⟨v1, y1, c1, _, t1⟩ := hg 1 _ rfl
      obtain ⟨v2, y2, c2, _, t2⟩ := hg 2 _ rfl
      obtain ⟨v3, y3, c3, _, t3⟩ := hg 3 _ rfl
      obtain ⟨v4, y4, c4, _, t4⟩ := hg 4 _ rfl
      obtain ⟨v5, y5, c5, _, t5⟩ := hg 5 _ rfl
      obtain ⟨v6, y6, c6, _, t6⟩ := hg 6 _ rfl
      obtain ⟨v7, y7, c7, _, t7⟩ := hg 7 _ rfl
      obtain ⟨n0, rfl, _, w0⟩ := trod_int_one Try.underlying3 t0
      obtain ⟨n1, rfl, _, w1⟩ := trod_int_one Try.underlying3 t1
      obtain ⟨n2, rfl, _, w2⟩ := trod_int_one Try.underlying3 t2
      obtain ⟨n3, rfl, _, w3⟩ := trod_int_one Try.underlying3 t3
      obtain ⟨n4, rfl, _, w4⟩ := trod_int_one Try.underlying3 t4
      obtain ⟨s5, rfl, _, _⟩ := trod_string_one Try.underlying9 t5
      obtain ⟨n6, rfl, _, w6⟩ := trod_int_one Try.underlying31 t6
      obtain ⟨A, m', c', ls, rfl, hmc, hcm, hla, _, _⟩ := open_legs t7
      refine ⟨⟨n0, n1, n2, n3, n4, s5, n6, A, m', c', ls⟩, fun j u hu => ?_, hla, Nat.le_trans hmc hcm, fun hA => ?_, w4⟩
      · have hj : j < 8 := by
          rcases Nat.lt_or_ge j 8 with h | h
          · exact h
          · rw [List.getElem?_eq_none (by rw [row_len]; exact h)] at hu; cases hu
        rcases (by omega : j = 0 ∨ j = 1 ∨ j = 2 ∨ j = 3 ∨ j = 4 ∨ j = 5 ∨ j = 6 ∨ j = 7) with rfl | rfl | rfl | rfl | rfl | rfl | rfl | rfl <;> cases hu <;> assumption
      · have hA : A = none := hA
        subst hA
        exact legs_none t7
    have hr : Reads w w.heap.size 8 (some a) len (rs.flatMap P.RowV.cells) := reads_of (by omega) row_len hl (fun hn => by
      obtain ⟨ys, n, _, _, _, hg⟩ := hf 0 (by omega)
      obtain ⟨v0, y0, c0, _, t0⟩ := hg 0 _ rfl
      have := World.block_lt_of_cell? _ _ c0
      rwa [block_of_add] at this) (fun i l hi => (hq i l hi).1)
    have hw : ∀ r ∈ rs, RowWf w r := fun r hr => by
      obtain ⟨i, hi⟩ := List.getElem?_of_mem hr
      exact (hq i r hi).2
    exact ⟨some a, len, cap, rs, e, Nat.le_trans hlc hc, ⟨hr, fun r hr => ⟨(hw r hr).legs, (hw r hr).len⟩⟩, hw⟩
end Go.Proofs.Ytjbhlojfmcldjab
