/- Plain laws: what is written is read as it was. No Go in sight. -/
import Derived.Test.YtefebcibcmjbaaaPlainNum
import Derived.Test.YtefebcibcmjbaaaPlainHex
namespace Go.Proofs.Ytefebcibcmjbaaa.P
set_option linter.unusedVariables false
theorem getN_low_aux (n : Nat) : ∀ (v a : Nat), (low n v).foldl (fun v b => v * 256 + b.toNat) a = a * 256 ^ n + v % 256 ^ n := by
  induction n with
  | zero => intro v a; simp [low, Nat.mod_one]
  | succ n ih =>
    intro v a
    simp only [low, List.foldl_cons]
    rw [ih]
    have e : (UInt8.ofNat (v / 256 ^ n)).toNat = v / 256 ^ n % 256 := by simp
    rw [e, Nat.pow_succ, Nat.mod_mul, Nat.add_mul, Nat.mul_assoc a, Nat.mul_comm 256, Nat.mul_comm (v / 256 ^ n % 256)]
    omega
theorem getN_low (n v : Nat) (h : v < 256 ^ n) : getN (low n v) = v := by
  unfold getN
  rw [getN_low_aux, Nat.mod_eq_of_lt h]
  omega
theorem digit_toNat (n : Nat) : (UInt8.ofNat (48 + n % 10)).toNat = 48 + n % 10 := by
  have : 48 + n % 10 < 256 := by omega
  simp [Nat.mod_eq_of_lt this]
theorem digitsN_spec (f : Nat) : ∀ n, n < 10 ^ f → numN (digitsN f n) = n ∧ (∀ b ∈ digitsN f n, digit b = true) := by
  induction f with
  | zero => intro n h; simp at h; subst h; simp [digitsN, numN]
  | succ f ih =>
    intro n h
    have hd : digit (UInt8.ofNat (48 + n % 10)) = true := by
      unfold digit; rw [digit_toNat]; exact decide_eq_true (by omega)
    unfold digitsN
    split
    · refine ⟨?_, ?_⟩
      · simp only [List.nil_append, numN, List.foldl_cons, List.foldl_nil, digit_toNat]; omega
      · intro b hb; simp only [List.nil_append, List.mem_singleton] at hb; rw [hb]; exact hd
    · rename_i h0
      have hlt : n / 10 < 10 ^ f := by rw [Nat.div_lt_iff_lt_mul (by omega), ← Nat.pow_succ]; exact h
      obtain ⟨h1, h2⟩ := ih (n / 10) hlt
      refine ⟨?_, ?_⟩
      · rw [numN_snoc, h1, digit_toNat]; omega
      · intro b hb
        rcases List.mem_append.1 hb with hb | hb
        · exact h2 b hb
        · rw [List.mem_singleton.1 hb]; exact hd
theorem digitsN_ne (f n : Nat) : digitsN (f + 1) n ≠ [] := by unfold digitsN; simp
theorem digitsN_head (f : Nat) : ∀ n, 0 < n → n < 10 ^ f → (digitsN f n).head? ≠ some 48 := by
  induction f with
  | zero => intro n h0 h; simp at h; omega
  | succ f ih =>
    intro n h0 h
    unfold digitsN
    split
    · simp only [List.nil_append, List.head?_cons]
      intro e
      have := congrArg UInt8.toNat (Option.some.inj e)
      rw [digit_toNat] at this
      simp at this
      omega
    · rename_i h1
      have hlt : n / 10 < 10 ^ f := by rw [Nat.div_lt_iff_lt_mul (by omega), ← Nat.pow_succ]; exact h
      have hf : f ≠ 0 := by rintro rfl; simp at hlt; omega
      obtain ⟨k, rfl⟩ : ∃ k, f = k + 1 := ⟨f - 1, by omega⟩
      have hne := digitsN_ne k (n / 10)
      have hih := ih (n / 10) (by omega) hlt
      rcases h9 : digitsN (k + 1) (n / 10) with _ | ⟨b, l⟩
      · exact absurd h9 hne
      · rw [h9] at hih; simpa using hih
theorem numOk_digits (v : Int) (h1 : -9223372036854775808 ≤ v) (h2 : v ≤ 9223372036854775807) : numOk (digits v) = decide (0 ≤ v ∧ v ≤ 2147483647) ∧ (0 ≤ v → (numN (digits v) : Int) = v) := by
  by_cases hv : v < 0
  · refine ⟨?_, fun h => by omega⟩
    rw [decide_eq_false (by omega)]
    have : (digits v).all digit = false := by
      simp only [digits, hv, if_true, List.singleton_append, List.all_cons]
      rfl
    simp [numOk, this]
  · obtain ⟨n, rfl⟩ := Int.eq_ofNat_of_zero_le (by omega : 0 ≤ v)
    have hd : digits (n : Int) = digitsN 20 n := by simp [digits]
    rw [hd]
    obtain ⟨s1, s2⟩ := digitsN_spec 20 n (by omega)
    refine ⟨?_, fun _ => by rw [s1]⟩
    have ha : (digitsN 20 n).all digit = true := List.all_eq_true.2 s2
    by_cases hb : n ≤ 2147483647
    · rw [decide_eq_true (by omega)]
      unfold numOk
      rw [ha, s1]
      have hl := digitsN_length 20 n 10 (by omega) (by omega)
      have h0 : 1 ≤ (digitsN 20 n).length := by
        rcases h : digitsN 20 n with _ | ⟨b, l⟩
        · exact absurd h (digitsN_ne 19 n)
        · simp
      rw [decide_eq_true (p := n ≤ 2147483647) hb, decide_eq_true]
      · rfl
      · refine ⟨h0, hl, ?_⟩
        rintro ⟨ha, hb⟩
        rcases Nat.eq_zero_or_pos n with h | h
        · subst h; revert ha; decide
        · exact digitsN_head 20 n h (by omega) hb
    · rw [decide_eq_false (by omega)]
      unfold numOk
      rw [s1, decide_eq_false (p := n ≤ 2147483647) hb]
      simp
end Go.Proofs.Ytefebcibcmjbaaa.P
