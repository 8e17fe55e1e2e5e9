/- Plain laws of the order of bytes. No Go in sight but the library's word for the order. -/
import Derived.Test.YtefebcibcmjbaaaPlainBits
import Derived.Lib.Bytealg
namespace Go.Proofs.Ytefebcibcmjbaaa.P
set_option linter.unusedVariables false
abbrev cmp := Lib.compareBytes
theorem cmp_vals (a : List UInt8) : ∀ b, cmp a b = -1 ∨ cmp a b = 0 ∨ cmp a b = 1 := by
  induction a with
  | nil => intro b; cases b <;> simp [Lib.compareBytes]
  | cons x a ih =>
    intro b
    cases b with
    | nil => simp [Lib.compareBytes]
    | cons y b =>
      simp only [cmp, Lib.compareBytes]
      split
      · simp
      · split
        · simp
        · exact ih b
theorem cmp_swap (a : List UInt8) : ∀ b, cmp b a = - cmp a b := by
  induction a with
  | nil => intro b; cases b <;> simp [Lib.compareBytes]
  | cons x a ih =>
    intro b
    cases b with
    | nil => simp [Lib.compareBytes]
    | cons y b =>
      simp only [cmp, Lib.compareBytes]
      by_cases h1 : x < y
      · have h2 : ¬ y < x := by rw [UInt8.lt_iff_toNat_lt] at *; omega
        simp [h1, h2]
      · by_cases h2 : y < x
        · simp [h1, h2]
        · simp [h1, h2]; exact ih b
theorem cmp_zero (a : List UInt8) : ∀ b, cmp a b = 0 ↔ a = b := by
  induction a with
  | nil => intro b; cases b <;> simp [Lib.compareBytes]
  | cons x a ih =>
    intro b
    cases b with
    | nil => simp [Lib.compareBytes]
    | cons y b =>
      simp only [cmp, Lib.compareBytes]
      by_cases h1 : x < y
      · have h3 : x ≠ y := by rintro rfl; exact absurd h1 (by simp)
        simp [h1, h3]
      · by_cases h2 : y < x
        · have h3 : x ≠ y := by rintro rfl; exact absurd h2 (by simp)
          simp [h1, h2, h3]
        · have h3 : x = y := by
            rw [UInt8.lt_iff_toNat_lt] at *
            exact UInt8.toNat_inj.1 (by omega)
          subst h3
          simp [h1]
          exact ih b
theorem cmp_le_trans (a : List UInt8) : ∀ b c, cmp a b ≤ 0 → cmp b c ≤ 0 → cmp a c ≤ 0 ∧ (cmp a b < 0 ∧ cmp b c < 0 → cmp a c < 0) := by
  induction a with
  | nil => intro b c; cases b <;> cases c <;> simp [Lib.compareBytes]
  | cons x a ih =>
    intro b c
    cases b with
    | nil => simp [Lib.compareBytes]
    | cons y b =>
      cases c with
      | nil => simp [Lib.compareBytes]
      | cons z c =>
        simp only [cmp, Lib.compareBytes, UInt8.lt_iff_toNat_lt]
        have := ih b c
        by_cases h1 : x.toNat < y.toNat <;> by_cases h2 : y.toNat < x.toNat <;> by_cases h3 : y.toNat < z.toNat <;> by_cases h4 : z.toNat < y.toNat <;> by_cases h5 : x.toNat < z.toNat <;> by_cases h6 : z.toNat < x.toNat <;>
          simp only [h1, h2, h3, h4, h5, h6, if_true, if_false] <;> first | omega | (intro p q; simp at p q; done) | exact this | (intro p q; exact ⟨by omega, by omega⟩)
theorem cmp_prefix (c a b : List UInt8) : cmp (c ++ a) (c ++ b) = cmp a b := by
  induction c with
  | nil => rfl
  | cons x c ih => simp only [cmp, List.cons_append, Lib.compareBytes] at *; simp [ih]
theorem low_mod (n : Nat) : ∀ (k v : Nat), n ≤ k → low n (v % 256 ^ k) = low n v := by
  induction n with
  | zero => intro k v _; rfl
  | succ n ih =>
    intro k v h
    simp only [low]
    rw [ih k v (by omega)]
    congr 1
    have e : (v % 256 ^ k / 256 ^ n) % 256 = (v / 256 ^ n) % 256 := by
      obtain ⟨d, rfl⟩ : ∃ d, k = n + 1 + d := ⟨k - (n + 1), by omega⟩
      rw [Nat.pow_add, Nat.pow_succ, Nat.mul_assoc, Nat.mod_mul_right_div_self, Nat.mod_mul_right_mod]
    apply UInt8.toNat_inj.1
    simp [e]
theorem cmp_low (n : Nat) : ∀ a b : Nat, a < 256 ^ n → b < 256 ^ n → ((cmp (low n a) (low n b) < 0 ↔ a < b) ∧ (cmp (low n a) (low n b) = 0 ↔ a = b)) := by
  induction n with
  | zero => intro a b ha hb; simp at ha hb; subst ha; subst hb; simp [low, Lib.compareBytes]
  | succ n ih =>
    intro a b ha hb
    have hp : 0 < 256 ^ n := Nat.pow_pos (by omega)
    have ea : a / 256 ^ n < 256 := by rw [Nat.div_lt_iff_lt_mul hp, Nat.mul_comm, ← Nat.pow_succ]; exact ha
    have eb : b / 256 ^ n < 256 := by rw [Nat.div_lt_iff_lt_mul hp, Nat.mul_comm, ← Nat.pow_succ]; exact hb
    have da := Nat.div_add_mod a (256 ^ n)
    have db := Nat.div_add_mod b (256 ^ n)
    have ma := Nat.mod_lt a hp
    have mb := Nat.mod_lt b hp
    have h := ih (a % 256 ^ n) (b % 256 ^ n) ma mb
    rw [low_mod n n a (Nat.le_refl _), low_mod n n b (Nat.le_refl _)] at h
    simp only [low, cmp, Lib.compareBytes]
    have ta : (UInt8.ofNat (a / 256 ^ n)).toNat = a / 256 ^ n := by simp; omega
    have tb : (UInt8.ofNat (b / 256 ^ n)).toNat = b / 256 ^ n := by simp; omega
    simp only [UInt8.lt_iff_toNat_lt, ta, tb]
    generalize a / 256 ^ n = qa at *
    generalize b / 256 ^ n = qb at *
    generalize 256 ^ n = p at *
    by_cases h1 : qa < qb
    · have : p * qa + p ≤ p * qb := by rw [← Nat.mul_succ]; exact Nat.mul_le_mul_left _ h1
      simp only [h1, if_true]
      constructor <;> constructor <;> intro _ <;> omega
    · by_cases h2 : qb < qa
      · have : p * qb + p ≤ p * qa := by rw [← Nat.mul_succ]; exact Nat.mul_le_mul_left _ h2
        simp only [h1, h2, if_true, if_false]
        constructor <;> constructor <;> intro _ <;> omega
      · have h3 : qa = qb := by omega
        subst h3
        simp only [h1, if_false]
        refine ⟨h.1.trans ?_, h.2.trans ?_⟩ <;> constructor <;> intro _ <;> omega
end Go.Proofs.Ytefebcibcmjbaaa.P
