/- Plain functions of hexadecimal texts: no Go in sight. -/
import Derived.Test.YtefebcibcmjbaabPlainBits
namespace Go.Proofs.Ytefebcibcmjbaab.P
set_option linter.unusedVariables false
/-- A hexadecimal digit's value; -1: it is none. -/
def nib (c : UInt8) : Int :=
  if 48 ≤ c.toNat ∧ c.toNat ≤ 57 then (c.toNat : Int) - 48 else if 97 ≤ c.toNat ∧ c.toNat ≤ 102 then (c.toNat : Int) - 87 else if 65 ≤ c.toNat ∧ c.toNat ≤ 70 then (c.toNat : Int) - 55 else -1
theorem nib_lt (c : UInt8) : -1 ≤ nib c ∧ nib c < 16 := by unfold nib; omega
/-- The digit of a number below 16. -/
def hd (n : Nat) : UInt8 := UInt8.ofNat (if n < 10 then 48 + n else 87 + n)
theorem nib_hd (n : Nat) (h : n < 16) : nib (hd n) = n := by
  have e : (hd n).toNat = if n < 10 then 48 + n else 87 + n := by unfold hd; simp; split <;> omega
  unfold nib
  rw [e]
  by_cases h10 : n < 10
  · simp only [h10, if_true]; rw [if_pos (by omega)]; omega
  · simp only [h10, if_false]; rw [if_neg (by omega), if_pos (by omega)]; omega
def hexB (b : UInt8) : List UInt8 := [hd (b.toNat / 16), hd (b.toNat % 16)]
def hex (l : List UInt8) : List UInt8 := l.flatMap hexB
theorem hex_length (l : List UInt8) : (hex l).length = 2 * l.length := by
  induction l with
  | nil => rfl
  | cons b l ih => simp [hex, hexB] at *; omega
theorem hex_snoc (l : List UInt8) (b : UInt8) : hex (l ++ [b]) = hex l ++ hexB b := by simp [hex]
def unhex : List UInt8 → Option (List UInt8)
  | [] => some []
  | [_] => none
  | a :: b :: r => if nib a < 0 ∨ nib b < 0 then none else (unhex r).map (UInt8.ofNat (16 * (nib a).toNat + (nib b).toNat) :: ·)
def unhexS (l : List UInt8) : List UInt8 := (unhex l).getD []
def unhexE (l : List UInt8) : Int := if (unhex l).isSome then 0 else 10
theorem unhex_odd : ∀ (l : List UInt8), l.length % 2 = 1 → unhex l = none
  | [], h => by simp at h
  | [_], _ => rfl
  | a :: b :: r, h => by
    unfold unhex
    split
    · rfl
    · rw [unhex_odd r (by simp at h; omega)]; rfl
theorem unhex_hex (l : List UInt8) : unhex (hex l) = some l := by
  induction l with
  | nil => rfl
  | cons b l ih =>
    have hb := b.toNat_lt
    have e : hex (b :: l) = hd (b.toNat / 16) :: hd (b.toNat % 16) :: hex l := rfl
    rw [e]
    unfold unhex
    rw [nib_hd _ (by omega), nib_hd _ (by omega), if_neg (by omega), ih]
    simp only [Option.map_some, Int.toNat_natCast]
    congr 2
    rw [show 16 * (b.toNat / 16) + b.toNat % 16 = b.toNat from by omega]
    simp
end Go.Proofs.Ytefebcibcmjbaab.P
