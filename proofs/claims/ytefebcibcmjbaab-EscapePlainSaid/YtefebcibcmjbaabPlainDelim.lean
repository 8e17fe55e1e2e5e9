/- Plain functions of the signs of a message: no Go in sight. -/
import Derived.Test.YtefebcibcmjbaabPlainBits
namespace Go.Proofs.Ytefebcibcmjbaab.P
set_option linter.unusedVariables false
/-- May a byte be a sign? -/
def may (c : UInt8) : Bool := decide (33 ≤ c.toNat ∧ c.toNat ≤ 126 ∧ ¬ (97 ≤ c.toNat ∧ c.toNat ≤ 122) ∧ ¬ (65 ≤ c.toNat ∧ c.toNat ≤ 90) ∧ ¬ (48 ≤ c.toNat ∧ c.toNat ≤ 57))
/-- The first i signs are sound. -/
def okUp (L : List UInt8) (i : Nat) : Prop := ∀ a, a < i → may (L.getD a 0) = true ∧ ∀ b, b < a → L.getD b 0 ≠ L.getD a 0
instance (L : List UInt8) (i : Nat) : Decidable (okUp L i) := by unfold okUp; infer_instance
def valid (L : List UInt8) : Bool := decide (okUp L 5)
def dflt : List UInt8 := [124, 94, 126, 92, 38]
theorem valid_dflt : valid dflt = true := by decide
theorem okUp_succ {L : List UInt8} {i : Nat} (h : okUp L i) (hm : may (L.getD i 0) = true) (hd : ∀ b, b < i → L.getD b 0 ≠ L.getD i 0) : okUp L (i + 1) := by
  intro a ha
  rcases Nat.lt_or_ge a i with h1 | h1
  · exact h a h1
  · have : a = i := by omega
    subst this
    exact ⟨hm, hd⟩
theorem bad_may {L : List UInt8} {i : Nat} (hi : i < 5) (hm : may (L.getD i 0) = false) : valid L = false := by
  apply decide_eq_false
  intro h
  have := (h i hi).1
  rw [hm] at this; cases this
theorem bad_twice {L : List UInt8} {i b : Nat} (hi : i < 5) (hb : b < i) (h : L.getD b 0 = L.getD i 0) : valid L = false := by
  apply decide_eq_false
  intro h2
  exact (h2 i hi).2 b hb h
end Go.Proofs.Ytefebcibcmjbaab.P
