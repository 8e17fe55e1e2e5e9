/- Arguments that are lists of texts and of ints: opened. Plain; no conditions. -/
import Derived.Test.YtjbhlojfmcldjabChanArg
import Derived.Test.YtjbhlojfmcldjabIntsAt
import Derived.SliceStrings
import Derived.ChangeSlices
namespace Go.Proofs.Ytjbhlojfmcldjab
set_option linter.unusedVariables false
open Go.Joins Go.ChangeShapes Go.WideShapes Go.RowKit Go.Deep
theorem open_texts_arg {H : Type} {enc : TypeId × Value → H} {w : World} {base : Nat} {spare : Nat → Bool} {held : Bool} {r : Reach} {b0 : Nat} {v : Value} {d : DataW H} {p : List MemPlace} (hv : Value.okWide Try.prog w r b0 25 v) (h : DataW.Trod enc Try.prog w base spare held 25 v d p) :
    ∃ (A : Option Addr) (n c : Nat) (l : List ByteArray), v = .slice A n c ∧ n ≤ maxLen ∧ StrsAt w w.heap.size A n l := by
  obtain ⟨a0, len0, cap0, rfl⟩ := okWide_slice Try.underlying25 hv
  obtain ⟨fuel, hf⟩ := h
  rcases open_strings Try.underlying25 Try.underlying9 (by kernel_rfl) hf with ⟨e, _⟩ | ⟨a, len, cap, ss, e, hb, hlc, hc, hm, _, hcell, _⟩
  · have e := (List.cons.inj e).1
    exact ⟨none, 0, 0, [], e, Nat.zero_le _, Reads.nil⟩
  · have e := (List.cons.inj e).1
    have hle : len ≤ ss.length := by rw [hm]; split <;> omega
    refine ⟨some a, len, cap, ss.take len, e, Nat.le_trans hlc hc, ⟨by simp; omega, fun hn => ⟨a, rfl, ?_, fun j u hu => ?_⟩⟩⟩
    · have := World.block_lt_of_cell? w _ (hcell 0 (by omega))
      rwa [block_of_add] at this
    · rw [List.getElem?_map] at hu
      obtain ⟨s, hs, rfl⟩ := Option.map_eq_some_iff.1 hu
      have hj : j < len := by
        rcases Nat.lt_or_ge j len with h1 | h1
        · exact h1
        · rw [List.getElem?_eq_none (by simp; omega)] at hs; cases hs
      rw [List.getElem?_take, if_pos hj] at hs
      rw [hcell j (by omega), List.getD_eq_getElem?_getD, hs]
      rfl
theorem open_ints_arg {H : Type} {enc : TypeId × Value → H} {w : World} {base : Nat} {spare : Nat → Bool} {held : Bool} {r : Reach} {b0 : Nat} {v : Value} {d : DataW H} {p : List MemPlace} (hv : Value.okWide Try.prog w r b0 26 v) (h : DataW.Trod enc Try.prog w base spare held 26 v d p) :
    ∃ (A : Option Addr) (n c : Nat) (l : List Int), v = .slice A n c ∧ n ≤ maxLen ∧ IntsAt w w.heap.size A n l := by
  obtain ⟨a0, len0, cap0, rfl⟩ := okWide_slice Try.underlying26 hv
  obtain ⟨fuel, hf⟩ := h
  rcases open_ints Try.underlying26 Try.underlying3 (by kernel_rfl) hf with ⟨e, _⟩ | ⟨a, len, cap, ss, e, hb, hlc, hc, hm, _, hcell, _⟩
  · have e := (List.cons.inj e).1
    exact ⟨none, 0, 0, [], e, Nat.zero_le _, Reads.nil⟩
  · have e := (List.cons.inj e).1
    have hle : len ≤ ss.length := by rw [hm]; split <;> omega
    refine ⟨some a, len, cap, ss.take len, e, Nat.le_trans hlc hc, ⟨by simp; omega, fun hn => ⟨a, rfl, ?_, fun j u hu => ?_⟩⟩⟩
    · have := World.block_lt_of_cell? w _ (hcell 0 (by omega))
      rwa [block_of_add] at this
    · rw [List.getElem?_map] at hu
      obtain ⟨s, hs, rfl⟩ := Option.map_eq_some_iff.1 hu
      have hj : j < len := by
        rcases Nat.lt_or_ge j len with h1 | h1
        · exact h1
        · rw [List.getElem?_eq_none (by simp; omega)] at hs; cases hs
      rw [List.getElem?_take, if_pos hj] at hs
      rw [hcell j (by omega), List.getD_eq_getElem?_getD, hs]
      rfl
end Go.Proofs.Ytjbhlojfmcldjab
