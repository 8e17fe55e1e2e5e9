/- Lists of ints that were there; masks. Plain lemmas. -/
import Derived.Test.YtjbhlojfmcldjabLegEq
import Derived.Test.YtjbhlojfmcldjabPlainRuns
namespace Go.Proofs.Ytjbhlojfmcldjab
set_option linter.unusedVariables false
open Go Go.RowKit
def IntsAt (w : World) (B : Nat) (A : Option Addr) (n : Nat) (l : List Int) : Prop := Reads w B 1 A n (l.map (Value.int .i64))
section
variable {w w' : World} {B B' n : Nat} {A : Option Addr} {l : List Int}
theorem IntsAt.len (h : IntsAt w B A n l) : l.length = n := by
  have := h.1
  rw [List.length_map] at this
  omega
theorem IntsAt.below (h : IntsAt w B A n l) (hb : Below B w w') : IntsAt w' B A n l := Reads.below h hb
theorem IntsAt.in_ {k : Nat} (h : IntsAt w B A n l) (hk : k < n) : ∃ ad s, A = some ad ∧ ad.block < B ∧ l[k]? = some s ∧ w.cell? (ad.add k) = some (.int .i64 s) := by
  obtain ⟨ad, e, hb, hc⟩ := h.2 (by omega)
  have hl := h.len
  have hlk := List.getElem?_eq_getElem (l := l) (i := k) (by omega)
  exact ⟨ad, _, e, hb, hlk, hc k _ (by rw [List.getElem?_map, hlk]; rfl)⟩
end
theorem and_low (x : Int) (m : Nat) (hm : m < 1000) : 0 ≤ bits .and .i64 x (m : Int) ∧ bits .and .i64 x (m : Int) ≤ m := by
  have h2 : (BitVec.ofInt 64 (m : Int)).toNat = m := by
    rw [BitVec.ofInt_natCast, BitVec.toNat_ofNat]; exact Nat.mod_eq_of_lt (by omega)
  have h1 : (BitVec.ofInt 64 x &&& BitVec.ofInt 64 (m : Int)).toNat ≤ m := by
    rw [BitVec.toNat_and, h2]
    exact Nat.and_le_right
  have he : bits .and .i64 x (m : Int) = IntKind.i64.wrap ((BitVec.ofInt 64 x &&& BitVec.ofInt 64 (m : Int)).toNat : Int) := rfl
  rw [he, IntKind.wrap_i64]
  omega
end Go.Proofs.Ytjbhlojfmcldjab
