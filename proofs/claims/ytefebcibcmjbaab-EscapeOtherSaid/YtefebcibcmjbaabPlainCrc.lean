/- Plain facts about the check sum: no Go in sight. -/
namespace Go.Proofs.Ytefebcibcmjbaab.P
set_option linter.unusedVariables false
theorem xor_rc {a b c : Nat} (h : a ^^^ c = b ^^^ c) : a = b := by
  have : a ^^^ c ^^^ c = b ^^^ c ^^^ c := by rw [h]
  simpa [Nat.xor_assoc] using this
theorem xor_lc {a b c : Nat} (h : c ^^^ a = c ^^^ b) : a = b := xor_rc (c := c) (by rw [Nat.xor_comm a, Nat.xor_comm b]; exact h)
def poly : Nat := 3988292384
def ones : Nat := 4294967295
def crcBit (x : Nat) : Nat := if x % 2 = 1 then (x / 2) ^^^ poly else x / 2
def crcBits : Nat → Nat → Nat
  | 0, x => x
  | n + 1, x => crcBits n (crcBit x)
def crcByte (x : Nat) (b : UInt8) : Nat := crcBits 8 (x ^^^ b.toNat)
def crcFrom (x : Nat) (l : List UInt8) : Nat := l.foldl crcByte x
def crc (l : List UInt8) : Nat := crcFrom ones l ^^^ ones

theorem poly_lt : poly < 2 ^ 32 := by decide
theorem crcBit_lt {x : Nat} (h : x < 2 ^ 32) : crcBit x < 2 ^ 32 := by
  unfold crcBit
  have : x / 2 < 2 ^ 32 := by omega
  split
  · exact Nat.xor_lt_two_pow this poly_lt
  · exact this
theorem crcBits_lt {n : Nat} : ∀ {x : Nat}, x < 2 ^ 32 → crcBits n x < 2 ^ 32 := by
  induction n with
  | zero => intro x h; exact h
  | succ n ih => intro x h; exact ih (crcBit_lt h)
theorem crcByte_lt {x : Nat} (h : x < 2 ^ 32) (b : UInt8) : crcByte x b < 2 ^ 32 :=
  crcBits_lt (Nat.xor_lt_two_pow h (by have := b.toNat_lt; omega))
theorem crcFrom_lt (l : List UInt8) : ∀ {x : Nat}, x < 2 ^ 32 → crcFrom x l < 2 ^ 32 := by
  induction l with
  | nil => intro x h; exact h
  | cons b l ih => intro x h; exact ih (crcByte_lt h b)
theorem crc_lt (l : List UInt8) : crc l < 2 ^ 32 := Nat.xor_lt_two_pow (crcFrom_lt l (by decide)) (by decide)

theorem top_of (x : Nat) (h : x < 2 ^ 32) : (crcBit x).testBit 31 = decide (x % 2 = 1) := by
  have h2 : (x / 2).testBit 31 = false := Nat.testBit_lt_two_pow (by omega)
  unfold crcBit
  split
  · rename_i hx
    have hp : poly.testBit 31 = true := by decide
    rw [Nat.testBit_xor, h2, hp]; simp [hx]
  · rename_i hx
    rw [h2]; simp [hx]
theorem crcBit_inj {x y : Nat} (hx : x < 2 ^ 32) (hy : y < 2 ^ 32) (h : crcBit x = crcBit y) : x = y := by
  have hp : decide (x % 2 = 1) = decide (y % 2 = 1) := by rw [← top_of x hx, ← top_of y hy, h]
  have hiff : x % 2 = 1 ↔ y % 2 = 1 := by simpa using hp
  unfold crcBit at h
  by_cases hx1 : x % 2 = 1
  · have hy1 := hiff.1 hx1
    rw [if_pos hx1, if_pos hy1] at h
    have : x / 2 = y / 2 := xor_rc h
    omega
  · have hy1 : ¬ y % 2 = 1 := fun h => hx1 (hiff.2 h)
    rw [if_neg hx1, if_neg hy1] at h
    omega
theorem crcBits_inj (n : Nat) : ∀ {x y : Nat}, x < 2 ^ 32 → y < 2 ^ 32 → crcBits n x = crcBits n y → x = y := by
  induction n with
  | zero => intro x y _ _ h; exact h
  | succ n ih => intro x y hx hy h; exact crcBit_inj hx hy (ih (crcBit_lt hx) (crcBit_lt hy) h)
theorem byte_lt (b : UInt8) : b.toNat < 2 ^ 32 := by have := b.toNat_lt; omega
theorem crcByte_inj {x y : Nat} (b : UInt8) (hx : x < 2 ^ 32) (hy : y < 2 ^ 32) (h : crcByte x b = crcByte y b) : x = y :=
  xor_rc (crcBits_inj 8 (Nat.xor_lt_two_pow hx (byte_lt b)) (Nat.xor_lt_two_pow hy (byte_lt b)) h)
theorem crcByte_inj_byte {x : Nat} (a b : UInt8) (hx : x < 2 ^ 32) (h : crcByte x a = crcByte x b) : a = b :=
  UInt8.toNat_inj.1 (xor_lc (crcBits_inj 8 (Nat.xor_lt_two_pow hx (byte_lt a)) (Nat.xor_lt_two_pow hx (byte_lt b)) h))
theorem crcFrom_inj (l : List UInt8) : ∀ {x y : Nat}, x < 2 ^ 32 → y < 2 ^ 32 → crcFrom x l = crcFrom y l → x = y := by
  induction l with
  | nil => intro x y _ _ h; exact h
  | cons b l ih => intro x y hx hy h; exact crcByte_inj b hx hy (ih (crcByte_lt hx b) (crcByte_lt hy b) h)
theorem crc_set_ne (l : List UInt8) (k : Nat) (c : UInt8) (hk : k < l.length) (hc : c ≠ l[k]) : crc (l.set k c) ≠ crc l := by
  intro h
  have h1 : crcFrom ones (l.set k c) = crcFrom ones l := xor_rc h
  have e : l = l.take k ++ l[k] :: l.drop (k + 1) := by rw [← List.drop_eq_getElem_cons hk, List.take_append_drop]
  have e2 : l.set k c = l.take k ++ c :: l.drop (k + 1) := by rw [List.set_eq_take_append_cons_drop, if_pos hk]
  rw [e2] at h1
  have h2 : crcFrom ones (l.take k ++ c :: l.drop (k + 1)) = crcFrom ones (l.take k ++ l[k] :: l.drop (k + 1)) := by rw [← e]; exact h1
  unfold crcFrom at h2
  rw [List.foldl_append, List.foldl_append, List.foldl_cons, List.foldl_cons] at h2
  have hlt : crcFrom ones (l.take k) < 2 ^ 32 := crcFrom_lt _ (by decide)
  exact hc (crcByte_inj_byte _ _ hlt (crcFrom_inj _ (crcByte_lt hlt _) (crcByte_lt hlt _) h2))
end Go.Proofs.Ytefebcibcmjbaab.P
