/- Parts, joined. -/
/- Plain facts about the check sum: no Go in sight. -/
namespace Go.Proofs.YtjikgmbhnknojaaGreatDoor.P
set_option linter.unusedVariables false
theorem xor_rc {a b c : Nat} (h : a ^^^ c = b ^^^ c) : a = b := by
  have : a ^^^ c ^^^ c = b ^^^ c ^^^ c := by rw [h]
  simpa [Nat.xor_assoc] using this
theorem xor_lc {a b c : Nat} (h : c ^^^ a = c ^^^ b) : a = b := xor_rc (c := c) (by rw [Nat.xor_comm a, Nat.xor_comm b]; exact h)
def poly : Nat := 3988292384
def ones : Nat := 4294967295
def crcBit (x : Nat) : Nat := if x % 2 = 1 then (x / 2) ^^^ poly else x / 2
def crcBits : Nat → Nat → Nat
  | 0, x => x
  | n + 1, x => crcBits n (crcBit x)
def crcByte (x : Nat) (b : UInt8) : Nat := crcBits 8 (x ^^^ b.toNat)
def crcFrom (x : Nat) (l : List UInt8) : Nat := l.foldl crcByte x
def crc (l : List UInt8) : Nat := crcFrom ones l ^^^ ones

theorem poly_lt : poly < 2 ^ 32 := by decide
theorem crcBit_lt {x : Nat} (h : x < 2 ^ 32) : crcBit x < 2 ^ 32 := by
  unfold crcBit
  have : x / 2 < 2 ^ 32 := by omega
  split
  · exact Nat.xor_lt_two_pow this poly_lt
  · exact this
theorem crcBits_lt {n : Nat} : ∀ {x : Nat}, x < 2 ^ 32 → crcBits n x < 2 ^ 32 := by
  induction n with
  | zero => intro x h; exact h
  | succ n ih => intro x h; exact ih (crcBit_lt h)
theorem crcByte_lt {x : Nat} (h : x < 2 ^ 32) (b : UInt8) : crcByte x b < 2 ^ 32 :=
  crcBits_lt (Nat.xor_lt_two_pow h (by have := b.toNat_lt; omega))
theorem crcFrom_lt (l : List UInt8) : ∀ {x : Nat}, x < 2 ^ 32 → crcFrom x l < 2 ^ 32 := by
  induction l with
  | nil => intro x h; exact h
  | cons b l ih => intro x h; exact ih (crcByte_lt h b)
theorem crc_lt (l : List UInt8) : crc l < 2 ^ 32 := Nat.xor_lt_two_pow (crcFrom_lt l (by decide)) (by decide)

theorem top_of (x : Nat) (h : x < 2 ^ 32) : (crcBit x).testBit 31 = decide (x % 2 = 1) := by
  have h2 : (x / 2).testBit 31 = false := Nat.testBit_lt_two_pow (by omega)
  unfold crcBit
  split
  · rename_i hx
    have hp : poly.testBit 31 = true := by decide
    rw [Nat.testBit_xor, h2, hp]; simp [hx]
  · rename_i hx
    rw [h2]; simp [hx]
theorem crcBit_inj {x y : Nat} (hx : x < 2 ^ 32) (hy : y < 2 ^ 32) (h : crcBit x = crcBit y) : x = y := by
  have hp : decide (x % 2 = 1) = decide (y % 2 = 1) := by rw [← top_of x hx, ← top_of y hy, h]
  have hiff : x % 2 = 1 ↔ y % 2 = 1 := by simpa using hp
  unfold crcBit at h
  by_cases hx1 : x % 2 = 1
  · have hy1 := hiff.1 hx1
    rw [if_pos hx1, if_pos hy1] at h
    have : x / 2 = y / 2 := xor_rc h
    omega
  · have hy1 : ¬ y % 2 = 1 := fun h => hx1 (hiff.2 h)
    rw [if_neg hx1, if_neg hy1] at h
    omega
theorem crcBits_inj (n : Nat) : ∀ {x y : Nat}, x < 2 ^ 32 → y < 2 ^ 32 → crcBits n x = crcBits n y → x = y := by
  induction n with
  | zero => intro x y _ _ h; exact h
  | succ n ih => intro x y hx hy h; exact crcBit_inj hx hy (ih (crcBit_lt hx) (crcBit_lt hy) h)
theorem byte_lt (b : UInt8) : b.toNat < 2 ^ 32 := by have := b.toNat_lt; omega
theorem crcByte_inj {x y : Nat} (b : UInt8) (hx : x < 2 ^ 32) (hy : y < 2 ^ 32) (h : crcByte x b = crcByte y b) : x = y :=
  xor_rc (crcBits_inj 8 (Nat.xor_lt_two_pow hx (byte_lt b)) (Nat.xor_lt_two_pow hy (byte_lt b)) h)
theorem crcByte_inj_byte {x : Nat} (a b : UInt8) (hx : x < 2 ^ 32) (h : crcByte x a = crcByte x b) : a = b :=
  UInt8.toNat_inj.1 (xor_lc (crcBits_inj 8 (Nat.xor_lt_two_pow hx (byte_lt a)) (Nat.xor_lt_two_pow hx (byte_lt b)) h))
theorem crcFrom_inj (l : List UInt8) : ∀ {x y : Nat}, x < 2 ^ 32 → y < 2 ^ 32 → crcFrom x l = crcFrom y l → x = y := by
  induction l with
  | nil => intro x y _ _ h; exact h
  | cons b l ih => intro x y hx hy h; exact crcByte_inj b hx hy (ih (crcByte_lt hx b) (crcByte_lt hy b) h)
theorem crc_set_ne (l : List UInt8) (k : Nat) (c : UInt8) (hk : k < l.length) (hc : c ≠ l[k]) : crc (l.set k c) ≠ crc l := by
  intro h
  have h1 : crcFrom ones (l.set k c) = crcFrom ones l := xor_rc h
  have e : l = l.take k ++ l[k] :: l.drop (k + 1) := by rw [← List.drop_eq_getElem_cons hk, List.take_append_drop]
  have e2 : l.set k c = l.take k ++ c :: l.drop (k + 1) := by rw [List.set_eq_take_append_cons_drop, if_pos hk]
  rw [e2] at h1
  have h2 : crcFrom ones (l.take k ++ c :: l.drop (k + 1)) = crcFrom ones (l.take k ++ l[k] :: l.drop (k + 1)) := by rw [← e]; exact h1
  unfold crcFrom at h2
  rw [List.foldl_append, List.foldl_append, List.foldl_cons, List.foldl_cons] at h2
  have hlt : crcFrom ones (l.take k) < 2 ^ 32 := crcFrom_lt _ (by decide)
  exact hc (crcByte_inj_byte _ _ hlt (crcFrom_inj _ (crcByte_lt hlt _) (crcByte_lt hlt _) h2))
end Go.Proofs.YtjikgmbhnknojaaGreatDoor.P

/- Plain functions that the calls of package bits compute, and their laws: no Go in sight. -/
namespace Go.Proofs.YtjikgmbhnknojaaGreatDoor.P
set_option linter.unusedVariables false
/-- bits.Add. -/
def add (a b : Int) : Int := if max a 0 > 9223372036854775807 - max b 0 then 9223372036854775807 else max a 0 + max b 0
/-- The i low bytes, the greatest first. -/
def low : Nat → Nat → List UInt8
  | 0, _ => []
  | i + 1, v => UInt8.ofNat (v / 256 ^ i) :: low i v
theorem low_length (i v : Nat) : (low i v).length = i := by induction i with
  | zero => rfl
  | succ i ih => simp [low, ih]
def putOk (v n : Int) : Bool := decide (1 ≤ n ∧ n ≤ 7 ∧ 0 ≤ v ∧ v < 256 ^ n.toNat)
def putS (v n : Int) : List UInt8 := if putOk v n = true then low n.toNat v.toNat else []
def putE (v n : Int) : Int := if putOk v n = true then 0 else 1
/-- The digits of a number, the greatest first. -/
def digitsN (fuel n : Nat) : List UInt8 := match fuel with
  | 0 => []
  | f + 1 => (if n / 10 = 0 then [] else digitsN f (n / 10)) ++ [UInt8.ofNat (48 + n % 10)]
def digits (v : Int) : List UInt8 := (if v < 0 then [45] else []) ++ digitsN 20 v.natAbs
theorem digitsN_length (f : Nat) : ∀ n k : Nat, 1 ≤ k → n < 10 ^ k → (digitsN f n).length ≤ k := by
  induction f with
  | zero => intro n k _ _; simp [digitsN]
  | succ f ih =>
    intro n k hk hn
    unfold digitsN
    split
    · simp; omega
    · rename_i h
      have hk2 : 2 ≤ k := by
        rcases Nat.lt_or_ge k 2 with h2 | h2
        · have : k = 1 := by omega
          subst this
          omega
        · exact h2
      have h3 : n / 10 < 10 ^ (k - 1) := by
        rw [Nat.div_lt_iff_lt_mul (by omega), ← Nat.pow_succ, show (k - 1).succ = k from by omega]; exact hn
      have := ih (n / 10) (k - 1) (by omega) h3
      simp; omega
end Go.Proofs.YtjikgmbhnknojaaGreatDoor.P

/- Plain functions of hexadecimal texts: no Go in sight. -/
namespace Go.Proofs.YtjikgmbhnknojaaGreatDoor.P
set_option linter.unusedVariables false
/-- A hexadecimal digit's value; -1: it is none. -/
def nib (c : UInt8) : Int :=
  if 48 ≤ c.toNat ∧ c.toNat ≤ 57 then (c.toNat : Int) - 48 else if 97 ≤ c.toNat ∧ c.toNat ≤ 102 then (c.toNat : Int) - 87 else if 65 ≤ c.toNat ∧ c.toNat ≤ 70 then (c.toNat : Int) - 55 else -1
theorem nib_lt (c : UInt8) : -1 ≤ nib c ∧ nib c < 16 := by unfold nib; omega
/-- The digit of a number below 16. -/
def hd (n : Nat) : UInt8 := UInt8.ofNat (if n < 10 then 48 + n else 87 + n)
theorem nib_hd (n : Nat) (h : n < 16) : nib (hd n) = n := by
  have e : (hd n).toNat = if n < 10 then 48 + n else 87 + n := by unfold hd; simp; split <;> omega
  unfold nib
  rw [e]
  by_cases h10 : n < 10
  · simp only [h10, if_true]; rw [if_pos (by omega)]; omega
  · simp only [h10, if_false]; rw [if_neg (by omega), if_pos (by omega)]; omega
def hexB (b : UInt8) : List UInt8 := [hd (b.toNat / 16), hd (b.toNat % 16)]
def hex (l : List UInt8) : List UInt8 := l.flatMap hexB
theorem hex_length (l : List UInt8) : (hex l).length = 2 * l.length := by
  induction l with
  | nil => rfl
  | cons b l ih => simp [hex, hexB] at *; omega
theorem hex_snoc (l : List UInt8) (b : UInt8) : hex (l ++ [b]) = hex l ++ hexB b := by simp [hex]
def unhex : List UInt8 → Option (List UInt8)
  | [] => some []
  | [_] => none
  | a :: b :: r => if nib a < 0 ∨ nib b < 0 then none else (unhex r).map (UInt8.ofNat (16 * (nib a).toNat + (nib b).toNat) :: ·)
def unhexS (l : List UInt8) : List UInt8 := (unhex l).getD []
def unhexE (l : List UInt8) : Int := if (unhex l).isSome then 0 else 10
theorem unhex_odd : ∀ (l : List UInt8), l.length % 2 = 1 → unhex l = none
  | [], h => by simp at h
  | [_], _ => rfl
  | a :: b :: r, h => by
    unfold unhex
    split
    · rfl
    · rw [unhex_odd r (by simp at h; omega)]; rfl
theorem unhex_hex (l : List UInt8) : unhex (hex l) = some l := by
  induction l with
  | nil => rfl
  | cons b l ih =>
    have hb := b.toNat_lt
    have e : hex (b :: l) = hd (b.toNat / 16) :: hd (b.toNat % 16) :: hex l := rfl
    rw [e]
    unfold unhex
    rw [nib_hd _ (by omega), nib_hd _ (by omega), if_neg (by omega), ih]
    simp only [Option.map_some, Int.toNat_natCast]
    congr 2
    rw [show 16 * (b.toNat / 16) + b.toNat % 16 = b.toNat from by omega]
    simp
end Go.Proofs.YtjikgmbhnknojaaGreatDoor.P

/- Plain functions of numbers in bytes and digits (Get, Number): no Go in sight. -/
namespace Go.Proofs.YtjikgmbhnknojaaGreatDoor.P
set_option linter.unusedVariables false
theorem snoc_ind {α : Type} {m : List α → Prop} (h0 : m []) (h1 : ∀ l a, m l → m (l ++ [a])) (l : List α) : m l := by
  have : ∀ r : List α, m r.reverse := by
    intro r
    induction r with
    | nil => exact h0
    | cons a r ih => rw [List.reverse_cons]; exact h1 _ _ ih
  simpa using this l.reverse
def getN (l : List UInt8) : Nat := l.foldl (fun v b => v * 256 + b.toNat) 0
def getV (l : List UInt8) : Int := if 1 ≤ l.length ∧ l.length ≤ 7 then (getN l : Int) else 0
def getE (l : List UInt8) : Int := if 1 ≤ l.length ∧ l.length ≤ 7 then 0 else 1
theorem getN_snoc (l : List UInt8) (b : UInt8) : getN (l ++ [b]) = getN l * 256 + b.toNat := by simp [getN, List.foldl_append]
theorem getN_lt (l : List UInt8) : getN l < 256 ^ l.length := by
  refine snoc_ind (m := fun l => getN l < 256 ^ l.length) (by simp [getN]) ?_ l
  · intro l b ih
    rw [getN_snoc, List.length_append, List.length_singleton, Nat.pow_succ]
    have := b.toNat_lt
    omega
def digit (b : UInt8) : Bool := decide (48 ≤ b.toNat ∧ b.toNat ≤ 57)
def numN (l : List UInt8) : Nat := l.foldl (fun v b => 10 * v + (b.toNat - 48)) 0
theorem numN_snoc (l : List UInt8) (b : UInt8) : numN (l ++ [b]) = 10 * numN l + (b.toNat - 48) := by simp [numN, List.foldl_append]
theorem numN_lt (l : List UInt8) (h : ∀ b ∈ l, digit b = true) : numN l < 10 ^ l.length := by
  refine snoc_ind (m := fun l => (∀ b ∈ l, digit b = true) → numN l < 10 ^ l.length) (by simp [numN]) ?_ l h
  · intro l b ih h
    rw [numN_snoc, List.length_append, List.length_singleton, Nat.pow_succ]
    have h1 := ih fun x hx => h x (by simp [hx])
    have h2 := h b (by simp)
    simp [digit] at h2
    omega
def numOk (l : List UInt8) : Bool :=
  decide (1 ≤ l.length ∧ l.length ≤ 10 ∧ ¬ (1 < l.length ∧ l.head? = some 48)) && l.all digit && decide (numN l ≤ 2147483647)
def numV (l : List UInt8) : Int := if numOk l = true then (numN l : Int) else 0
def numE (l : List UInt8) : Int := if numOk l = true then 0 else 11
end Go.Proofs.YtjikgmbhnknojaaGreatDoor.P

/- Plain laws: what is written is read as it was. No Go in sight. -/
namespace Go.Proofs.YtjikgmbhnknojaaGreatDoor.P
set_option linter.unusedVariables false
theorem getN_low_aux (n : Nat) : ∀ (v a : Nat), (low n v).foldl (fun v b => v * 256 + b.toNat) a = a * 256 ^ n + v % 256 ^ n := by
  induction n with
  | zero => intro v a; simp [low, Nat.mod_one]
  | succ n ih =>
    intro v a
    simp only [low, List.foldl_cons]
    rw [ih]
    have e : (UInt8.ofNat (v / 256 ^ n)).toNat = v / 256 ^ n % 256 := by simp
    rw [e, Nat.pow_succ, Nat.mod_mul, Nat.add_mul, Nat.mul_assoc a, Nat.mul_comm 256, Nat.mul_comm (v / 256 ^ n % 256)]
    omega
theorem getN_low (n v : Nat) (h : v < 256 ^ n) : getN (low n v) = v := by
  unfold getN
  rw [getN_low_aux, Nat.mod_eq_of_lt h]
  omega
theorem digit_toNat (n : Nat) : (UInt8.ofNat (48 + n % 10)).toNat = 48 + n % 10 := by
  have : 48 + n % 10 < 256 := by omega
  simp [Nat.mod_eq_of_lt this]
theorem digitsN_spec (f : Nat) : ∀ n, n < 10 ^ f → numN (digitsN f n) = n ∧ (∀ b ∈ digitsN f n, digit b = true) := by
  induction f with
  | zero => intro n h; simp at h; subst h; simp [digitsN, numN]
  | succ f ih =>
    intro n h
    have hd : digit (UInt8.ofNat (48 + n % 10)) = true := by
      unfold digit; rw [digit_toNat]; exact decide_eq_true (by omega)
    unfold digitsN
    split
    · refine ⟨?_, ?_⟩
      · simp only [List.nil_append, numN, List.foldl_cons, List.foldl_nil, digit_toNat]; omega
      · intro b hb; simp only [List.nil_append, List.mem_singleton] at hb; rw [hb]; exact hd
    · rename_i h0
      have hlt : n / 10 < 10 ^ f := by rw [Nat.div_lt_iff_lt_mul (by omega), ← Nat.pow_succ]; exact h
      obtain ⟨h1, h2⟩ := ih (n / 10) hlt
      refine ⟨?_, ?_⟩
      · rw [numN_snoc, h1, digit_toNat]; omega
      · intro b hb
        rcases List.mem_append.1 hb with hb | hb
        · exact h2 b hb
        · rw [List.mem_singleton.1 hb]; exact hd
theorem digitsN_ne (f n : Nat) : digitsN (f + 1) n ≠ [] := by unfold digitsN; simp
theorem digitsN_head (f : Nat) : ∀ n, 0 < n → n < 10 ^ f → (digitsN f n).head? ≠ some 48 := by
  induction f with
  | zero => intro n h0 h; simp at h; omega
  | succ f ih =>
    intro n h0 h
    unfold digitsN
    split
    · simp only [List.nil_append, List.head?_cons]
      intro e
      have := congrArg UInt8.toNat (Option.some.inj e)
      rw [digit_toNat] at this
      simp at this
      omega
    · rename_i h1
      have hlt : n / 10 < 10 ^ f := by rw [Nat.div_lt_iff_lt_mul (by omega), ← Nat.pow_succ]; exact h
      have hf : f ≠ 0 := by rintro rfl; simp at hlt; omega
      obtain ⟨k, rfl⟩ : ∃ k, f = k + 1 := ⟨f - 1, by omega⟩
      have hne := digitsN_ne k (n / 10)
      have hih := ih (n / 10) (by omega) hlt
      rcases h9 : digitsN (k + 1) (n / 10) with _ | ⟨b, l⟩
      · exact absurd h9 hne
      · rw [h9] at hih; simpa using hih
theorem numOk_digits (v : Int) (h1 : -9223372036854775808 ≤ v) (h2 : v ≤ 9223372036854775807) : numOk (digits v) = decide (0 ≤ v ∧ v ≤ 2147483647) ∧ (0 ≤ v → (numN (digits v) : Int) = v) := by
  by_cases hv : v < 0
  · refine ⟨?_, fun h => by omega⟩
    rw [decide_eq_false (by omega)]
    have : (digits v).all digit = false := by
      simp only [digits, hv, if_true, List.singleton_append, List.all_cons]
      rfl
    simp [numOk, this]
  · obtain ⟨n, rfl⟩ := Int.eq_ofNat_of_zero_le (by omega : 0 ≤ v)
    have hd : digits (n : Int) = digitsN 20 n := by simp [digits]
    rw [hd]
    obtain ⟨s1, s2⟩ := digitsN_spec 20 n (by omega)
    refine ⟨?_, fun _ => by rw [s1]⟩
    have ha : (digitsN 20 n).all digit = true := List.all_eq_true.2 s2
    by_cases hb : n ≤ 2147483647
    · rw [decide_eq_true (by omega)]
      unfold numOk
      rw [ha, s1]
      have hl := digitsN_length 20 n 10 (by omega) (by omega)
      have h0 : 1 ≤ (digitsN 20 n).length := by
        rcases h : digitsN 20 n with _ | ⟨b, l⟩
        · exact absurd h (digitsN_ne 19 n)
        · simp
      rw [decide_eq_true (p := n ≤ 2147483647) hb, decide_eq_true]
      · rfl
      · refine ⟨h0, hl, ?_⟩
        rintro ⟨ha, hb⟩
        rcases Nat.eq_zero_or_pos n with h | h
        · subst h; revert ha; decide
        · exact digitsN_head 20 n h (by omega) hb
    · rw [decide_eq_false (by omega)]
      unfold numOk
      rw [s1, decide_eq_false (p := n ≤ 2147483647) hb]
      simp
end Go.Proofs.YtjikgmbhnknojaaGreatDoor.P
