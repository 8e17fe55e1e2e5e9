/- Arguments that are channels: opened. Plain; no conditions. -/
import Derived.Test.YtjbhlojfmcldjabRowArg
namespace Go.Proofs.Ytjbhlojfmcldjab
set_option linter.unusedVariables false
open Go.Joins Go.ChangeShapes Go.WideShapes Go.RowKit Go.Deep
/-- What a destination that was read holds. -/
structure DestWf (d : P.Dest) : Prop where
  chain : (Lit.int .i64 d.chain).wf = true
  port : (Lit.int .i64 d.port).wf = true
  retry : (Lit.int .i64 d.retry).wf = true
  backoff : (Lit.int .i64 d.backoff).wf = true
  timeout : (Lit.int .i64 d.timeout).wf = true
theorem open_dests {H : Type} {enc : TypeId × Value → H} {w : World} {base : Nat} {spare : Nat → Bool} {held : Bool} {fuel : Nat} {v : Value} {x : DataW H × List MemPlace} (h : DataW.trod enc Try.prog w base spare held fuel 22 [v] = some x) :
    ∃ A m c ls, v = .slice A m c ∧ m ≤ c ∧ c ≤ maxLen ∧ DestsAt w w.heap.size A m ls ∧ (∀ l ∈ ls, DestWf l) ∧ (x = (.nil, []) ∧ m = 0 ∨ ∃ el sp, x.1 = .slice el sp ∧ el.length = m) := by
  rcases open_slice_fields Try.underlying22 Try.underlying43 (by kernel_rfl) (by kernel_rfl) h with ⟨e, hx⟩ | ⟨a, len, cap, m, D, Pl, e, _, hlc, hc, hm, hx, hf⟩
  · simp at e
    exact ⟨none, 0, 0, [], e, Nat.le_refl _, Nat.zero_le _, Reads.nil, fun l hl => by simp at hl, .inl ⟨hx, rfl⟩⟩
  · simp at e
    have hlm : len ≤ m := by rw [hm]; split <;> omega
    obtain ⟨ls, hl, hq⟩ := list_of (Q := fun i (l : P.Dest) => (∀ j u, l.cells[j]? = some u → w.cell? (a.add (i * 9 + j)) = some u) ∧ DestWf l) len fun i hi => by
      obtain ⟨ys, n, _, _, _, hg⟩ := hf i (by omega)
      obtain ⟨v0, y0, c0, _, t0⟩ := hg 0 _ rfl
      obtain ⟨v1, y1, c1, _, t1⟩ := hg 1 _ rfl
      obtain ⟨v2, y2, c2, _, t2⟩ := hg 2 _ rfl
      obtain ⟨v3, y3, c3, _, t3⟩ := hg 3 _ rfl
      obtain ⟨v4, y4, c4, _, t4⟩ := hg 4 _ rfl
      obtain ⟨v5, y5, c5, _, t5⟩ := hg 5 _ rfl
      obtain ⟨v6, y6, c6, _, t6⟩ := hg 6 _ rfl
      obtain ⟨v7, y7, c7, _, t7⟩ := hg 7 _ rfl
      obtain ⟨v8, y8, c8, _, t8⟩ := hg 8 _ rfl
      obtain ⟨s0, rfl, _, _⟩ := trod_string_one Try.underlying9 t0
      obtain ⟨n1, rfl, _, w1⟩ := trod_int_one Try.underlying3 t1
      obtain ⟨b2, rfl, _⟩ := trod_bool_one Try.underlying4 t2
      obtain ⟨n3, rfl, _, w3⟩ := trod_int_one Try.underlying3 t3
      obtain ⟨s4, rfl, _, _⟩ := trod_string_one Try.underlying9 t4
      obtain ⟨n5, rfl, _, w5⟩ := trod_int_one Try.underlying3 t5
      obtain ⟨n6, rfl, _, w6⟩ := trod_int_one Try.underlying3 t6
      obtain ⟨n7, rfl, _, w7⟩ := trod_int_one Try.underlying3 t7
      obtain ⟨s8, rfl, _, _⟩ := trod_string_one Try.underlying9 t8
      refine ⟨⟨s0, n1, b2, n3, s4, n5, n6, n7, s8⟩, fun j u hu => ?_, w1, w3, w5, w6, w7⟩
      have hj : j < 9 := by
        rcases Nat.lt_or_ge j 9 with h | h
        · exact h
        · rw [List.getElem?_eq_none (by rw [dest_len]; exact h)] at hu; cases hu
      rcases (by omega : j = 0 ∨ j = 1 ∨ j = 2 ∨ j = 3 ∨ j = 4 ∨ j = 5 ∨ j = 6 ∨ j = 7 ∨ j = 8) with rfl | rfl | rfl | rfl | rfl | rfl | rfl | rfl | rfl <;> cases hu <;> assumption
    refine ⟨some a, len, cap, ls, e, hlc, hc, reads_of (by omega) dest_len hl (fun hn => ?_) (fun i l hi => (hq i l hi).1), fun l hl' => ?_, .inr ⟨_, _, by rw [hx], by simp⟩⟩
    · obtain ⟨ys, n, _, _, _, hg⟩ := hf 0 (by omega)
      obtain ⟨v0, y0, c0, _, t0⟩ := hg 0 _ rfl
      have := World.block_lt_of_cell? _ _ c0
      rwa [block_of_add] at this
    · obtain ⟨i, hi⟩ := List.getElem?_of_mem hl'
      exact (hq i l hi).2
theorem open_channel {H : Type} {enc : TypeId × Value → H} {w : World} {base : Nat} {spare : Nat → Bool} {held : Bool} {r : Reach} {b0 : Nat} {v : Value} {d : DataW H} {p : List MemPlace}
    (hv : Value.okWide Try.prog w r b0 24 v) (h : DataW.Trod enc Try.prog w base spare held 24 v d p) :
    ∃ (cn : ByteArray) (cf : Bool) (cpt : Int) (cd cpre cfil ctr : ByteArray) (crt : Int) (D : Option Addr) (n dc : Nat) (ds : List P.Dest), v = .agg #[.string cn, .bool cf, .int .i64 cpt, .string cd, .string cpre, .string cfil, .string ctr, .slice D n dc, .int .i64 crt] ∧ DestsAt w w.heap.size D n ds ∧ n ≤ maxLen ∧ (∀ d ∈ ds, DestWf d) ∧ (Lit.int .i64 cpt).wf = true ∧ (Lit.int .i64 crt).wf = true := by
  obtain ⟨c0, c1, c2, c3, c4, c5, c6, c7, c8, y0, y1, y2, y3, y4, y5, y6, y7, y8, n, rfl, rfl, rfl, h0, h1, h2, h3, h4, h5, h6, h7, h8⟩ := open_agg9 Try.underlying24 (by kernel_rfl) (by kernel_rfl) hv h
  obtain ⟨a0, rfl, _, _⟩ := trod_string_one Try.underlying9 h0
  obtain ⟨a1, rfl, _⟩ := trod_bool_one Try.underlying4 h1
  obtain ⟨a2, rfl, _, w2⟩ := trod_int_one Try.underlying3 h2
  obtain ⟨a3, rfl, _, _⟩ := trod_string_one Try.underlying9 h3
  obtain ⟨a4, rfl, _, _⟩ := trod_string_one Try.underlying9 h4
  obtain ⟨a5, rfl, _, _⟩ := trod_string_one Try.underlying9 h5
  obtain ⟨a6, rfl, _, _⟩ := trod_string_one Try.underlying9 h6
  obtain ⟨A, m, c, ls, rfl, hmc, hc, hl, hw, _⟩ := open_dests h7
  obtain ⟨a8, rfl, _, w8⟩ := trod_int_one Try.underlying3 h8
  exact ⟨a0, a1, a2, a3, a4, a5, a6, a8, A, m, c, ls, rfl, hl, Nat.le_trans hmc hc, hw, w2, w8⟩
end Go.Proofs.Ytjbhlojfmcldjab
