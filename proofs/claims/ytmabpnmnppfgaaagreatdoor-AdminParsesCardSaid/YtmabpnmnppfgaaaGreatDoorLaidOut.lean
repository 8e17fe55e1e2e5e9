/- The program's types, variables and functions lie as the rows want them: told in parts. -/
import Derived.Test.YtmabpnmnppfgaaaGreatDoorProg
import Derived.WalkKit
import GoSem.ClaimDataLaid
namespace Go.Proofs.YtmabpnmnppfgaaaGreatDoor
open Go
theorem all_range_of {f : Nat → Bool} (n : Nat) (h : ∀ i, i < n → f i = true) : (List.range n).all f = true := by
  rw [List.all_eq_true]
  intro x hx
  exact h x (List.mem_range.1 hx)
theorem range_part {f : Nat → Bool} {a k : Nat} (h : (List.range' a k).all f = true) : ∀ i, a ≤ i → i < a + k → f i = true :=
  fun i h1 h2 => List.all_eq_true.1 h i (List.mem_range'_1.2 ⟨h1, h2⟩)
theorem typesSize : Tryz.prog.types.size = 573 := by kernel_rfl
theorem rows0 : (List.range' 0 144).all (rowFine Tryz.prog) = true := by kernel_rfl
theorem rows1 : (List.range' 144 144).all (rowFine Tryz.prog) = true := by kernel_rfl
theorem rows2 : (List.range' 288 144).all (rowFine Tryz.prog) = true := by kernel_rfl
theorem rows3 : (List.range' 432 141).all (rowFine Tryz.prog) = true := by kernel_rfl
theorem globalsIn : Tryz.prog.globals.all (fun g => decide (g.type < 573)) = true := by kernel_rfl
theorem funcsIn : Tryz.prog.funcs.all (fun f => f.params.all fun t => decide (t < 573)) = true := by kernel_rfl
theorem laidOut : laidOutB Tryz.prog = true := by
  unfold laidOutB
  rw [typesSize, globalsIn, funcsIn, Bool.and_true, Bool.and_true]
  refine all_range_of _ fun i hi => ?_
  by_cases h1 : i < 144
  · exact range_part rows0 i (Nat.zero_le _) (by omega)
  · by_cases h2 : i < 288
    · exact range_part rows1 i (by omega) (by omega)
    · by_cases h3 : i < 432
      · exact range_part rows2 i (by omega) (by omega)
      · exact range_part rows3 i (by omega) (by omega)
end Go.Proofs.YtmabpnmnppfgaaaGreatDoor
