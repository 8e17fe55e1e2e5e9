/- Plain functions that the calls of package bits compute, and their laws: no Go in sight. -/
import Derived.Test.YtefebcibcmjbaabPlainCrc
namespace Go.Proofs.Ytefebcibcmjbaab.P
set_option linter.unusedVariables false
/-- bits.Add. -/
def add (a b : Int) : Int := if max a 0 > 9223372036854775807 - max b 0 then 9223372036854775807 else max a 0 + max b 0
/-- The i low bytes, the greatest first. -/
def low : Nat → Nat → List UInt8
  | 0, _ => []
  | i + 1, v => UInt8.ofNat (v / 256 ^ i) :: low i v
theorem low_length (i v : Nat) : (low i v).length = i := by induction i with
  | zero => rfl
  | succ i ih => simp [low, ih]
def putOk (v n : Int) : Bool := decide (1 ≤ n ∧ n ≤ 7 ∧ 0 ≤ v ∧ v < 256 ^ n.toNat)
def putS (v n : Int) : List UInt8 := if putOk v n = true then low n.toNat v.toNat else []
def putE (v n : Int) : Int := if putOk v n = true then 0 else 1
/-- The digits of a number, the greatest first. -/
def digitsN (fuel n : Nat) : List UInt8 := match fuel with
  | 0 => []
  | f + 1 => (if n / 10 = 0 then [] else digitsN f (n / 10)) ++ [UInt8.ofNat (48 + n % 10)]
def digits (v : Int) : List UInt8 := (if v < 0 then [45] else []) ++ digitsN 20 v.natAbs
theorem digitsN_length (f : Nat) : ∀ n k : Nat, 1 ≤ k → n < 10 ^ k → (digitsN f n).length ≤ k := by
  induction f with
  | zero => intro n k _ _; simp [digitsN]
  | succ f ih =>
    intro n k hk hn
    unfold digitsN
    split
    · simp; omega
    · rename_i h
      have hk2 : 2 ≤ k := by
        rcases Nat.lt_or_ge k 2 with h2 | h2
        · have : k = 1 := by omega
          subst this
          omega
        · exact h2
      have h3 : n / 10 < 10 ^ (k - 1) := by
        rw [Nat.div_lt_iff_lt_mul (by omega), ← Nat.pow_succ, show (k - 1).succ = k from by omega]; exact hn
      have := ih (n / 10) (k - 1) (by omega) h3
      simp; omega
end Go.Proofs.Ytefebcibcmjbaab.P
