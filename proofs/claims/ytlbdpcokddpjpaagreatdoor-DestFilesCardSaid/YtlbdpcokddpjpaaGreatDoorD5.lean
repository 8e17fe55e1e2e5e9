/- Parts, joined. -/
import Derived.Test.YtlbdpcokddpjpaaGreatDoorWays
import Derived.Laws.BitsAllLaws
import Derived.Laws.BitsLemmas
import Derived.OwnWalk
import Derived.Laws.OwnMore
import Derived.StillTailTactics
import Derived.Deep.RegionLaw
import Derived.Test.YtlbdpcokddpjpaaGreatDoorD4
/- Plain facts about the check sum: no Go in sight. -/
namespace Go.Proofs.YtlbdpcokddpjpaaGreatDoor.P
set_option linter.unusedVariables false
theorem xor_rc {a b c : Nat} (h : a ^^^ c = b ^^^ c) : a = b := by
  have : a ^^^ c ^^^ c = b ^^^ c ^^^ c := by rw [h]
  simpa [Nat.xor_assoc] using this
theorem xor_lc {a b c : Nat} (h : c ^^^ a = c ^^^ b) : a = b := xor_rc (c := c) (by rw [Nat.xor_comm a, Nat.xor_comm b]; exact h)
def poly : Nat := 3988292384
def ones : Nat := 4294967295
def crcBit (x : Nat) : Nat := if x % 2 = 1 then (x / 2) ^^^ poly else x / 2
def crcBits : Nat → Nat → Nat
  | 0, x => x
  | n + 1, x => crcBits n (crcBit x)
def crcByte (x : Nat) (b : UInt8) : Nat := crcBits 8 (x ^^^ b.toNat)
def crcFrom (x : Nat) (l : List UInt8) : Nat := l.foldl crcByte x
def crc (l : List UInt8) : Nat := crcFrom ones l ^^^ ones

theorem poly_lt : poly < 2 ^ 32 := by decide
theorem crcBit_lt {x : Nat} (h : x < 2 ^ 32) : crcBit x < 2 ^ 32 := by
  unfold crcBit
  have : x / 2 < 2 ^ 32 := by omega
  split
  · exact Nat.xor_lt_two_pow this poly_lt
  · exact this
theorem crcBits_lt {n : Nat} : ∀ {x : Nat}, x < 2 ^ 32 → crcBits n x < 2 ^ 32 := by
  induction n with
  | zero => intro x h; exact h
  | succ n ih => intro x h; exact ih (crcBit_lt h)
theorem crcByte_lt {x : Nat} (h : x < 2 ^ 32) (b : UInt8) : crcByte x b < 2 ^ 32 :=
  crcBits_lt (Nat.xor_lt_two_pow h (by have := b.toNat_lt; omega))
theorem crcFrom_lt (l : List UInt8) : ∀ {x : Nat}, x < 2 ^ 32 → crcFrom x l < 2 ^ 32 := by
  induction l with
  | nil => intro x h; exact h
  | cons b l ih => intro x h; exact ih (crcByte_lt h b)
theorem crc_lt (l : List UInt8) : crc l < 2 ^ 32 := Nat.xor_lt_two_pow (crcFrom_lt l (by decide)) (by decide)

theorem top_of (x : Nat) (h : x < 2 ^ 32) : (crcBit x).testBit 31 = decide (x % 2 = 1) := by
  have h2 : (x / 2).testBit 31 = false := Nat.testBit_lt_two_pow (by omega)
  unfold crcBit
  split
  · rename_i hx
    have hp : poly.testBit 31 = true := by decide
    rw [Nat.testBit_xor, h2, hp]; simp [hx]
  · rename_i hx
    rw [h2]; simp [hx]
theorem crcBit_inj {x y : Nat} (hx : x < 2 ^ 32) (hy : y < 2 ^ 32) (h : crcBit x = crcBit y) : x = y := by
  have hp : decide (x % 2 = 1) = decide (y % 2 = 1) := by rw [← top_of x hx, ← top_of y hy, h]
  have hiff : x % 2 = 1 ↔ y % 2 = 1 := by simpa using hp
  unfold crcBit at h
  by_cases hx1 : x % 2 = 1
  · have hy1 := hiff.1 hx1
    rw [if_pos hx1, if_pos hy1] at h
    have : x / 2 = y / 2 := xor_rc h
    omega
  · have hy1 : ¬ y % 2 = 1 := fun h => hx1 (hiff.2 h)
    rw [if_neg hx1, if_neg hy1] at h
    omega
theorem crcBits_inj (n : Nat) : ∀ {x y : Nat}, x < 2 ^ 32 → y < 2 ^ 32 → crcBits n x = crcBits n y → x = y := by
  induction n with
  | zero => intro x y _ _ h; exact h
  | succ n ih => intro x y hx hy h; exact crcBit_inj hx hy (ih (crcBit_lt hx) (crcBit_lt hy) h)
theorem byte_lt (b : UInt8) : b.toNat < 2 ^ 32 := by have := b.toNat_lt; omega
theorem crcByte_inj {x y : Nat} (b : UInt8) (hx : x < 2 ^ 32) (hy : y < 2 ^ 32) (h : crcByte x b = crcByte y b) : x = y :=
  xor_rc (crcBits_inj 8 (Nat.xor_lt_two_pow hx (byte_lt b)) (Nat.xor_lt_two_pow hy (byte_lt b)) h)
theorem crcByte_inj_byte {x : Nat} (a b : UInt8) (hx : x < 2 ^ 32) (h : crcByte x a = crcByte x b) : a = b :=
  UInt8.toNat_inj.1 (xor_lc (crcBits_inj 8 (Nat.xor_lt_two_pow hx (byte_lt a)) (Nat.xor_lt_two_pow hx (byte_lt b)) h))
theorem crcFrom_inj (l : List UInt8) : ∀ {x y : Nat}, x < 2 ^ 32 → y < 2 ^ 32 → crcFrom x l = crcFrom y l → x = y := by
  induction l with
  | nil => intro x y _ _ h; exact h
  | cons b l ih => intro x y hx hy h; exact crcByte_inj b hx hy (ih (crcByte_lt hx b) (crcByte_lt hy b) h)
theorem crc_set_ne (l : List UInt8) (k : Nat) (c : UInt8) (hk : k < l.length) (hc : c ≠ l[k]) : crc (l.set k c) ≠ crc l := by
  intro h
  have h1 : crcFrom ones (l.set k c) = crcFrom ones l := xor_rc h
  have e : l = l.take k ++ l[k] :: l.drop (k + 1) := by rw [← List.drop_eq_getElem_cons hk, List.take_append_drop]
  have e2 : l.set k c = l.take k ++ c :: l.drop (k + 1) := by rw [List.set_eq_take_append_cons_drop, if_pos hk]
  rw [e2] at h1
  have h2 : crcFrom ones (l.take k ++ c :: l.drop (k + 1)) = crcFrom ones (l.take k ++ l[k] :: l.drop (k + 1)) := by rw [← e]; exact h1
  unfold crcFrom at h2
  rw [List.foldl_append, List.foldl_append, List.foldl_cons, List.foldl_cons] at h2
  have hlt : crcFrom ones (l.take k) < 2 ^ 32 := crcFrom_lt _ (by decide)
  exact hc (crcByte_inj_byte _ _ hlt (crcFrom_inj _ (crcByte_lt hlt _) (crcByte_lt hlt _) h2))
end Go.Proofs.YtlbdpcokddpjpaaGreatDoor.P

/- Plain functions that the calls of package bits compute, and their laws: no Go in sight. -/
namespace Go.Proofs.YtlbdpcokddpjpaaGreatDoor.P
set_option linter.unusedVariables false
/-- bits.Add. -/
def add (a b : Int) : Int := if max a 0 > 9223372036854775807 - max b 0 then 9223372036854775807 else max a 0 + max b 0
/-- The i low bytes, the greatest first. -/
def low : Nat → Nat → List UInt8
  | 0, _ => []
  | i + 1, v => UInt8.ofNat (v / 256 ^ i) :: low i v
theorem low_length (i v : Nat) : (low i v).length = i := by induction i with
  | zero => rfl
  | succ i ih => simp [low, ih]
def putOk (v n : Int) : Bool := decide (1 ≤ n ∧ n ≤ 7 ∧ 0 ≤ v ∧ v < 256 ^ n.toNat)
def putS (v n : Int) : List UInt8 := if putOk v n = true then low n.toNat v.toNat else []
def putE (v n : Int) : Int := if putOk v n = true then 0 else 1
/-- The digits of a number, the greatest first. -/
def digitsN (fuel n : Nat) : List UInt8 := match fuel with
  | 0 => []
  | f + 1 => (if n / 10 = 0 then [] else digitsN f (n / 10)) ++ [UInt8.ofNat (48 + n % 10)]
def digits (v : Int) : List UInt8 := (if v < 0 then [45] else []) ++ digitsN 20 v.natAbs
theorem digitsN_length (f : Nat) : ∀ n k : Nat, 1 ≤ k → n < 10 ^ k → (digitsN f n).length ≤ k := by
  induction f with
  | zero => intro n k _ _; simp [digitsN]
  | succ f ih =>
    intro n k hk hn
    unfold digitsN
    split
    · simp; omega
    · rename_i h
      have hk2 : 2 ≤ k := by
        rcases Nat.lt_or_ge k 2 with h2 | h2
        · have : k = 1 := by omega
          subst this
          omega
        · exact h2
      have h3 : n / 10 < 10 ^ (k - 1) := by
        rw [Nat.div_lt_iff_lt_mul (by omega), ← Nat.pow_succ, show (k - 1).succ = k from by omega]; exact hn
      have := ih (n / 10) (k - 1) (by omega) h3
      simp; omega
end Go.Proofs.YtlbdpcokddpjpaaGreatDoor.P

/- Plain functions of hexadecimal texts: no Go in sight. -/
namespace Go.Proofs.YtlbdpcokddpjpaaGreatDoor.P
set_option linter.unusedVariables false
/-- A hexadecimal digit's value; -1: it is none. -/
def nib (c : UInt8) : Int :=
  if 48 ≤ c.toNat ∧ c.toNat ≤ 57 then (c.toNat : Int) - 48 else if 97 ≤ c.toNat ∧ c.toNat ≤ 102 then (c.toNat : Int) - 87 else if 65 ≤ c.toNat ∧ c.toNat ≤ 70 then (c.toNat : Int) - 55 else -1
theorem nib_lt (c : UInt8) : -1 ≤ nib c ∧ nib c < 16 := by unfold nib; omega
/-- The digit of a number below 16. -/
def hd (n : Nat) : UInt8 := UInt8.ofNat (if n < 10 then 48 + n else 87 + n)
theorem nib_hd (n : Nat) (h : n < 16) : nib (hd n) = n := by
  have e : (hd n).toNat = if n < 10 then 48 + n else 87 + n := by unfold hd; simp; split <;> omega
  unfold nib
  rw [e]
  by_cases h10 : n < 10
  · simp only [h10, if_true]; rw [if_pos (by omega)]; omega
  · simp only [h10, if_false]; rw [if_neg (by omega), if_pos (by omega)]; omega
def hexB (b : UInt8) : List UInt8 := [hd (b.toNat / 16), hd (b.toNat % 16)]
def hex (l : List UInt8) : List UInt8 := l.flatMap hexB
theorem hex_length (l : List UInt8) : (hex l).length = 2 * l.length := by
  induction l with
  | nil => rfl
  | cons b l ih => simp [hex, hexB] at *; omega
theorem hex_snoc (l : List UInt8) (b : UInt8) : hex (l ++ [b]) = hex l ++ hexB b := by simp [hex]
def unhex : List UInt8 → Option (List UInt8)
  | [] => some []
  | [_] => none
  | a :: b :: r => if nib a < 0 ∨ nib b < 0 then none else (unhex r).map (UInt8.ofNat (16 * (nib a).toNat + (nib b).toNat) :: ·)
def unhexS (l : List UInt8) : List UInt8 := (unhex l).getD []
def unhexE (l : List UInt8) : Int := if (unhex l).isSome then 0 else 10
theorem unhex_odd : ∀ (l : List UInt8), l.length % 2 = 1 → unhex l = none
  | [], h => by simp at h
  | [_], _ => rfl
  | a :: b :: r, h => by
    unfold unhex
    split
    · rfl
    · rw [unhex_odd r (by simp at h; omega)]; rfl
theorem unhex_hex (l : List UInt8) : unhex (hex l) = some l := by
  induction l with
  | nil => rfl
  | cons b l ih =>
    have hb := b.toNat_lt
    have e : hex (b :: l) = hd (b.toNat / 16) :: hd (b.toNat % 16) :: hex l := rfl
    rw [e]
    unfold unhex
    rw [nib_hd _ (by omega), nib_hd _ (by omega), if_neg (by omega), ih]
    simp only [Option.map_some, Int.toNat_natCast]
    congr 2
    rw [show 16 * (b.toNat / 16) + b.toNat % 16 = b.toNat from by omega]
    simp
end Go.Proofs.YtlbdpcokddpjpaaGreatDoor.P

/- Bits of ints of 64 bits that are not below 0. Plain; the bounds are each lemma's own. -/
namespace Go.Proofs.YtlbdpcokddpjpaaGreatDoor
set_option linter.unusedVariables false
open Go.RowKit
theorem ofInt_i64 (a : Nat) (ha : a < 9223372036854775808) : (BitVec.ofInt 64 (a : Int)).toNat = a := by
  rw [BitVec.ofInt_natCast, BitVec.toNat_ofNat]; exact Nat.mod_eq_of_lt (by omega)
theorem i64_and_nat (a b : Nat) (ha : a < 9223372036854775808) (hb : b < 9223372036854775808) : bits .and .i64 (a : Int) (b : Int) = ((a &&& b : Nat) : Int) := by
  have hx : a &&& b < 2 ^ 63 := Nat.and_lt_two_pow _ (by omega)
  show IntKind.i64.wrap ((BitVec.ofInt 64 (a : Int) &&& BitVec.ofInt 64 (b : Int)).toNat : Int) = _
  rw [BitVec.toNat_and, ofInt_i64 a ha, ofInt_i64 b hb, IntKind.wrap_i64]
  omega
theorem i64_or_nat (a b : Nat) (ha : a < 9223372036854775808) (hb : b < 9223372036854775808) : bits .or .i64 (a : Int) (b : Int) = ((a ||| b : Nat) : Int) := by
  have hx : a ||| b < 2 ^ 63 := Nat.or_lt_two_pow (by omega) (by omega)
  show IntKind.i64.wrap ((BitVec.ofInt 64 (a : Int) ||| BitVec.ofInt 64 (b : Int)).toNat : Int) = _
  rw [BitVec.toNat_or, ofInt_i64 a ha, ofInt_i64 b hb, IntKind.wrap_i64]
  omega
theorem i64_xor_nat (a b : Nat) (ha : a < 9223372036854775808) (hb : b < 9223372036854775808) : bits .xor .i64 (a : Int) (b : Int) = ((a ^^^ b : Nat) : Int) := by
  have hx : a ^^^ b < 2 ^ 63 := Nat.xor_lt_two_pow (by omega) (by omega)
  show IntKind.i64.wrap ((BitVec.ofInt 64 (a : Int) ^^^ BitVec.ofInt 64 (b : Int)).toNat : Int) = _
  rw [BitVec.toNat_xor, ofInt_i64 a ha, ofInt_i64 b hb, IntKind.wrap_i64]
  omega
theorem or_byte (a b : Nat) (hb : b < 256) : (a * 256) ||| b = a * 256 + b := by
  have h := Nat.two_pow_add_eq_or_of_lt (i := 8) hb a
  rw [show 2 ^ 8 * a = a * 256 from by omega] at h
  exact h.symm
end Go.Proofs.YtlbdpcokddpjpaaGreatDoor

/- Bytes that the call itself has gathered: a slice that owns a list of bytes; append, make, the text of it. Plain lemmas. -/
namespace Go.Proofs.YtlbdpcokddpjpaaGreatDoor
set_option linter.unusedVariables false
open Go.RowKit
def valU8 (b : UInt8) : Value := .int .u8 (b.toNat : Int)
def OwnB (w : World) (B : Nat) (v : Value) (l : List UInt8) : Prop := w.ownsRow B 5 1 v l.length (l.map valU8)
theorem valU8_one (l : List UInt8) : ∀ u ∈ l.map valU8, u.oneCell' = true := by
  intro u hu
  obtain ⟨_, _, rfl⟩ := List.mem_map.1 hu
  rfl
section
variable {w w' : World} {B B' : Nat} {v : Value} {l : List UInt8}
theorem OwnB.nil (w : World) (B : Nat) : OwnB w B (.slice none 0 0) [] := World.ownsRow_nil _ _ _ _
theorem OwnB.drew (h : OwnB w B v l) : OwnB w.drew B v l := h
theorem OwnB.drewN (h : OwnB w B v l) (n : Nat) : OwnB (w.drewN n) B v l := h
theorem OwnB.alloc (h : OwnB w B v l) (o : Obj) : OwnB (w.alloc o) B v l := World.ownsRow.alloc h o
theorem OwnB.less (h : OwnB w B v l) (hB : B' ≤ B) : OwnB w B' v l := by
  obtain ⟨h1, h2⟩ := h
  refine ⟨h1, ?_⟩
  rcases h2 with h2 | ⟨g, cap, cur, hv, hg, r⟩
  · exact .inl h2
  · exact .inr ⟨g, cap, cur, hv, Nat.le_trans hB hg, r⟩
theorem OwnB.below {C : Nat} (h : OwnB w B v l) (hb : Below C w w') (hC : w.heap.size ≤ C) : OwnB w' B v l := by
  obtain ⟨h1, h2⟩ := h
  refine ⟨h1, ?_⟩
  rcases h2 with h2 | ⟨g, cap, cur, hv, hg, hh, r⟩
  · exact .inl h2
  · have hlt : g < w.heap.size := by
      rcases Nat.lt_or_ge g w.heap.size with h | h
      · exact h
      · rw [Array.getElem?_eq_none h] at hh; cases hh
    exact .inr ⟨g, cap, cur, hv, hg, by rw [hb.block g (by omega)]; exact hh, r⟩
theorem OwnB.made (w : World) (n : Nat) (hn : n ≤ maxLen) : OwnB (w.alloc (.cells (cellsU8 (List.replicate n 0)) 5)) w.heap.size (.slice (some ⟨w.heap.size, 0, none⟩) 0 n) [] :=
  ⟨by simp, .inr ⟨w.heap.size, n, cellsU8 (List.replicate n 0), rfl, Nat.le_refl _, heap_alloc_new w _, Nat.zero_le _, hn, by simp [cellsU8_size], by simp⟩⟩
theorem OwnB.lit (w : World) (l : List UInt8) (hn : l.length ≤ maxLen) : OwnB (w.alloc (.cells (cellsU8 l) 5)) w.heap.size (.slice (some ⟨w.heap.size, 0, none⟩) l.length l.length) l :=
  ⟨by simp, .inr ⟨w.heap.size, l.length, cellsU8 l, rfl, Nat.le_refl _, heap_alloc_new w _, Nat.le_refl _, hn, by simp [cellsU8_size], by
    simp only [cellsU8, Nat.mul_one]
    rw [List.take_of_length_le (by simp)]
    rfl⟩⟩
theorem OwnB.string (h : OwnB w B v l) : (convert 89 9 v).run Tryz.prog w = .ok (.string ⟨l.toArray⟩) w := by
  rcases h.2 with ⟨rfl, hn⟩ | ⟨g, cap, cur, rfl, hg, hh, r⟩
  · have hl : l = [] := List.eq_nil_of_length_eq_zero hn
    subst hl
    exact run_convert_bytes_nil (P := Tryz.prog) w 89 5 Tryz.underlying89 Tryz.underlying5 0 0 9 Tryz.underlying9
  · have hc := World.ownsRow.cells h (g := g) rfl
    have h1 := run_convert_bytes_arg (P := Tryz.prog) w 89 5 Tryz.underlying89 Tryz.underlying5 g 0 l.length cap (l.map fun b => (b.toNat : Int)) (by simp) (fun i hi => by
      have hx := hc i (valU8 l[i]) (by simp [hi])
      rw [Addr.add_lit] at hx
      rw [hx]
      simp [valU8, hi]) 9 Tryz.underlying9
    rw [h1]
    have he : ((fun n : Int => UInt8.ofNat n.toNat) ∘ fun b : UInt8 => (b.toNat : Int)) = id := by funext b; simp
    simp [strOfNums, he]
end
/-- append of bytes onto a row of the call's own. -/
theorem wpList_append_bytes {w : World} {ops : Array Oper} {rest : List Oper} {o : Oper} {a : Act} {Q : Exit → Act → World → Prop} (hgd : o.guard = none) (s x : Operand)
    (ho : o.op = .call { callee := .builtin .append, args := #[s, x], argTypes := #[89, 89] })
    (B : Nat) (v : Value) (l : List UInt8) (hs : a.eval s = v) (hown : OwnB w B v l)
    (ad : Addr) (m c : Nat) (news : List UInt8) (hx : a.eval x = .slice (some ad) m c) (hl : news.length = m) (hnews : ∀ j u, news[j]? = some u → w.cell? (ad.add j) = some (valU8 u))
    (hbytes : l.length + m ≤ 140737488355328) (hbase : B ≤ w.heap.size)
    (h : ∀ v' w', OwnB w' B v' (l ++ news) → Below B w w' → wpList Tryz.prog ops Q rest (a.put o.dst v') w') : wpList Tryz.prog ops Q (o :: rest) a w := by
  obtain ⟨i, hi, hz, hs1, hb1⟩ := info_parts infoU8
  refine wpList_append_own w hgd s x 89 ho B 5 i (.int .u8 0) 1 1 Tryz.underlying89 hi hz hs1 hb1 rfl (by omega) v l.length (l.map valU8) hs hown ad m c (news.map valU8) hx (by simp [hl])
    (fun j u hu => by
      rw [List.getElem?_map] at hu
      obtain ⟨b, hb, rfl⟩ := Option.map_eq_some_iff.1 hu
      exact hnews j b hb) (valU8_one _) (by unfold maxLen; omega) (by omega) hbase ?_
  intro v' w' hown' hg _
  refine h v' w' ?_ ((Below.refl _ _).grown hg hbase (fun k hk => (World.ownsRow.lt hown k hk).1))
  unfold OwnB
  rw [List.length_append, List.map_append, hl]
  exact hown'
/-- append of bytes within the capacity. -/
theorem wpList_append_bytes_fits {w : World} {ops : Array Oper} {rest : List Oper} {o : Oper} {a : Act} {Q : Exit → Act → World → Prop} (hgd : o.guard = none) (s x : Operand)
    (ho : o.op = .call { callee := .builtin .append, args := #[s, x], argTypes := #[89, 89] })
    (B g cap : Nat) (l : List UInt8) (hs : a.eval s = .slice (some ⟨g, 0, none⟩) l.length cap) (hown : OwnB w B (.slice (some ⟨g, 0, none⟩) l.length cap) l)
    (ad : Addr) (m c : Nat) (news : List UInt8) (hx : a.eval x = .slice (some ad) m c) (hl : news.length = m) (hnews : ∀ j u, news[j]? = some u → w.cell? (ad.add j) = some (valU8 u))
    (hcap : l.length + m ≤ cap) (hbase : B ≤ w.heap.size)
    (h : ∀ w', OwnB w' B (.slice (some ⟨g, 0, none⟩) (l ++ news).length cap) (l ++ news) → Below B w w' → wpList Tryz.prog ops Q rest (a.put o.dst (.slice (some ⟨g, 0, none⟩) (l ++ news).length cap)) w') : wpList Tryz.prog ops Q (o :: rest) a w := by
  obtain ⟨i, hi, hz, hs1, hb1⟩ := info_parts infoU8
  refine wpList_append_fits w hgd s x 89 ho B 5 i 1 Tryz.underlying89 hi hs1 g l.length cap (l.map valU8) hs hown ad m c (news.map valU8) hx (by simp [hl])
    (fun j u hu => by
      rw [List.getElem?_map] at hu
      obtain ⟨b, hb, rfl⟩ := Option.map_eq_some_iff.1 hu
      exact hnews j b hb) (valU8_one _) hcap ?_
  intro w' hown' hg
  have e : l.length + m = (l ++ news).length := by rw [List.length_append, hl]
  rw [e, ← List.map_append] at hown'
  rw [e]
  exact h w' hown' ((Below.refl _ _).grown hg hbase (fun k hk => by
    have := (World.ownsRow.lt hown k (by simpa [Value.ownBlock] using hk)).1
    exact this))
theorem newsU8 (w : World) (t : TypeId) (l : List UInt8) : ∀ j u, l[j]? = some u → (w.alloc (.cells (cellsU8 l) t)).cell? ((⟨w.heap.size, 0, none⟩ : Addr).add j) = some (valU8 u) := by
  intro j u hu
  rw [Addr.add_lit, Nat.zero_add, (Blk.new w t (cellsU8 l)).cell, cellsU8_get, hu]
  rfl
/-- append of one gathered slice onto another. -/
theorem wpList_append_both {w : World} {ops : Array Oper} {rest : List Oper} {o : Oper} {a : Act} {Q : Exit → Act → World → Prop} (hgd : o.guard = none) (s x : Operand)
    (ho : o.op = .call { callee := .builtin .append, args := #[s, x], argTypes := #[89, 89] })
    (B : Nat) (v : Value) (l : List UInt8) (hs : a.eval s = v) (hown : OwnB w B v l)
    (B' : Nat) (u : Value) (l' : List UInt8) (hx : a.eval x = u) (hsrc : OwnB w B' u l')
    (hbytes : l.length + l'.length ≤ 140737488355328) (hbase : B ≤ w.heap.size)
    (h : ∀ v' w', OwnB w' B v' (l ++ l') → Below B w w' → wpList Tryz.prog ops Q rest (a.put o.dst v') w') : wpList Tryz.prog ops Q (o :: rest) a w := by
  rcases hsrc.2 with ⟨rfl, hn⟩ | ⟨g, cap, cur, rfl, hg, hh, r⟩
  · have hl : l' = [] := List.eq_nil_of_length_eq_zero hn
    subst hl
    obtain ⟨i, hi, hz, hs1, hb1⟩ := info_parts infoU8
    refine wpList_plain hgd fun K hK' => ?_
    have hrun := run_append_owned_none (P := Tryz.prog) w B 89 o.type 5 i 1 Tryz.underlying89 hi v l.length (l.map valU8) hown
    unfold Oper.wp execOp
    simp only [ho, resolve, invoke, builtin, Sem.run_bind, Sem.run_pure, Result.andThen_ok, List.map_toArray, List.map_cons, List.map_nil, hs, hx, hrun]
    exact hK' _ _ (h v w (by simpa using hown) (Below.refl _ _))
  · refine wpList_append_bytes hgd s x ho B v l hs hown ⟨g, 0, none⟩ l'.length cap l' hx rfl ?_ hbytes hbase h
    intro j b hj
    exact World.ownsRow.cells hsrc (g := g) rfl j (valU8 b) (by simp [hj])
/-- The same two laws as one step of a region that draws its order. -/
theorem step_append_bytes_fits {w : World} {ops : Array Oper} {o : Oper} {a : Act} {K : Act → World → Prop} {Q : Exit → Act → World → Prop} {E : Prop} (hgd : o.guard = none) (s x : Operand)
    (ho : o.op = .call { callee := .builtin .append, args := #[s, x], argTypes := #[89, 89] })
    (B g cap : Nat) (l : List UInt8) (hs : a.eval s = .slice (some ⟨g, 0, none⟩) l.length cap) (hown : OwnB w B (.slice (some ⟨g, 0, none⟩) l.length cap) l)
    (ad : Addr) (m c : Nat) (news : List UInt8) (hx : a.eval x = .slice (some ad) m c) (hl : news.length = m) (hnews : ∀ j u, news[j]? = some u → w.cell? (ad.add j) = some (valU8 u))
    (hcap : l.length + m ≤ cap) (hbase : B ≤ w.heap.size)
    (h : ∀ w', OwnB w' B (.slice (some ⟨g, 0, none⟩) (l ++ news).length cap) (l ++ news) → Below B w w' → K (a.put o.dst (.slice (some ⟨g, 0, none⟩) (l ++ news).length cap)) w') :
    if Region.wanted o (yielded ops a.tmps) = true then Oper.wp Tryz.prog o a w K Q else E := by
  have hw : Region.wanted o (yielded ops a.tmps) = true := by simp [Region.wanted, hgd]
  rw [if_pos hw]
  obtain ⟨i, hi, hz, hs1, hb1⟩ := info_parts infoU8
  obtain ⟨w', hrun, r1, r2⟩ := run_append_fits (P := Tryz.prog) w B 89 o.type 5 i 1 Tryz.underlying89 hi hs1 g l.length cap (l.map valU8) hown ad m c (news.map valU8) (by simp [hl])
    (fun j u hu => by
      rw [List.getElem?_map] at hu
      obtain ⟨b, hb, rfl⟩ := Option.map_eq_some_iff.1 hu
      exact hnews j b hb) (valU8_one _) hcap
  have e : l.length + m = (l ++ news).length := by rw [List.length_append, hl]
  rw [e, ← List.map_append] at r1
  rw [e] at hrun
  unfold Oper.wp execOp
  simp only [ho, resolve, invoke, builtin, Sem.run_bind, Sem.run_pure, Result.andThen_ok, List.map_toArray, List.map_cons, List.map_nil, hs, hx, hrun]
  exact h w' r1 ((Below.refl _ _).grown r2 hbase (fun k hk => (World.ownsRow.lt hown k (by simpa [Value.ownBlock] using hk)).1))
end Go.Proofs.YtlbdpcokddpjpaaGreatDoor

/- What bits.Put and bits.Add return: the plain functions' values; nothing that was there is written. For all ints of 64 bits. -/
namespace Go.Proofs.YtlbdpcokddpjpaaGreatDoor
set_option linter.unusedVariables false
open Go.RowKit
set_option maxHeartbeats 400000 in
set_option maxRecDepth 20000 in
theorem put_any (v n : Int) (w : World) (ha : -9223372036854775808 ≤ v) (ha' : v ≤ 9223372036854775807) (hb : -9223372036854775808 ≤ n) (hb' : n ≤ 9223372036854775807) :
    Calls Tryz.prog 25 #[.int .i64 v, .int .i64 n] w fun e w' => e = .returned (.tuple #[.string ⟨(P.putS v n).toArray⟩, .int .i64 (P.putE v n)]) ∧ Below w.heap.size w w' := by
  by_cases h1 : 1 ≤ n ∧ n ≤ 7 ∧ 0 ≤ v
  · obtain ⟨h1, h2, h3⟩ := h1
    obtain ⟨v, rfl⟩ := Int.eq_ofNat_of_zero_le h3
    obtain ⟨n, rfl⟩ := Int.eq_ofNat_of_zero_le (by omega : 0 ≤ n)
    have H1 := Lib.hid ha
    have H2 := Lib.hid ha'
    clear ha ha' hb hb'
    have hpow : (2 : Int) ^ (8 * n) = ((256 ^ n : Nat) : Int) := by rw [Int.pow_mul]; simp
    have hpos : 0 < 256 ^ n := Nat.pow_pos (by omega)
    by_cases hd : v < 256 ^ n
    · have ht : ((v : Int) / 2 ^ (8 * n) != 0) = false := by rw [hpow, ← Int.natCast_ediv, Nat.div_eq_of_lt hd]; rfl
      have hok : P.putOk v n = true := by simp [P.putOk]; refine ⟨by omega, by omega, ?_⟩; exact_mod_cast hd
      have hS : P.putS v n = P.low n v := by simp [P.putS, hok]
      have hE : P.putE v n = 0 := by simp [P.putE, hok]
      rw [hS, hE]
      have hmk : ∀ W : World, (Instr.makeSlice 89 (.int .i64 n) (.int .i64 n)).run Tryz.prog W = .ok (.slice (some ⟨W.heap.size, 0, none⟩) n n) (W.alloc (.cells (cellsU8 (List.replicate n 0)) 5)) := fun W => make_bytes .i64 .i64 n n (by omega) (by omega) W
      have Hblk := Lib.hid (Blk.new w 5 (cellsU8 (List.replicate n 0)))
      clear hpow hpos hok hS hE hd
      go_enter Tryz.func25, Tryz.ntmps25
      go_wp2_with fail
      go_loopw [29] (fun x wr => ∃ i : Nat, i ≤ n ∧ x = .int .i64 i ∧ Blk wr w.heap.size 5 (cellsU8 (List.replicate (n - i) 0 ++ P.low i v)) ∧ Below w.heap.size w wr) (fun x _ => n - (intOf x).toNat)
      case atStart => exact ⟨0, by omega, rfl, by simpa [P.low] using Hblk.out, (Below.refl _ _).alloc (Nat.le_refl _) _⟩
      case round =>
        obtain ⟨i, hi, rfl, hblk, hbel⟩ := hrel
        by_cases hlt : i < n
        · have hcell := hblk.cell (n - 1 - i)
          have hfr := hblk.frozen (n - 1 - i)
          obtain ⟨u, hu⟩ : ∃ u, (cellsU8 (List.replicate (n - i) 0 ++ P.low i v))[n - 1 - i]? = some u := ⟨_, Array.getElem?_eq_getElem (by simp [cellsU8_size, P.low_length]; omega)⟩
          rw [hu] at hcell
          clear hu
          have Hs := Lib.hid (hblk.set_ (n - 1 - i) (.int .u8 (((UInt8.ofNat (v / 256 ^ i)).toNat : Nat) : Int)))
          have hv : ((v : Int) / 2 ^ (8 * i) % 256) = (((UInt8.ofNat (v / 256 ^ i)).toNat : Nat) : Int) := by
            rw [show (2 : Int) ^ (8 * i) = ((256 ^ i : Nat) : Int) from by rw [Int.pow_mul]; simp]
            simp
          have Hv := Lib.hid hv
          clear hv hblk
          go_wp2
          rw [Hv.out]
          go_roundw
          case rel =>
            refine ⟨i + 1, by omega, by go_num, ?_, hbel.setCell (by simp) _⟩
            have h := Hs.out
            rw [cellsU8_set] at h
            rw [show (P.low (i + 1) v) = UInt8.ofNat (v / 256 ^ i) :: P.low i v from rfl]
            have e : (List.replicate (n - i) (0 : UInt8) ++ P.low i v).set (n - 1 - i) (UInt8.ofNat (v / 256 ^ i)) = List.replicate (n - (i + 1)) 0 ++ UInt8.ofNat (v / 256 ^ i) :: P.low i v := by
              rw [show n - i = (n - (i + 1)) + 1 from by omega, show n - 1 - i = n - (i + 1) from by omega, List.replicate_succ', List.append_assoc]
              rw [List.set_append_right _ _ (by simp)]
              simp
            rw [e] at h
            exact h
          case measure => simp [intOf]; omega
        · have hin : i = n := by omega
          subst hin
          have hst := bytes_string (c := i) hblk (n := i) (by simp [P.low_length])
          rw [Nat.sub_self, List.replicate_zero, List.nil_append, List.take_of_length_le (by simp [P.low_length])] at hst
          go_wp2
          go_ret2
          exact ⟨rfl, hbel⟩
    · have ht : ((v : Int) / 2 ^ (8 * n) != 0) = true := by
        rw [hpow, ← Int.natCast_ediv]
        have : 0 < v / 256 ^ n := Nat.div_pos (by omega) hpos
        rw [bne_iff_ne]; omega
      have hok : P.putOk v n = false := by simp [P.putOk]; intro _ _; exact_mod_cast Nat.not_lt.1 hd
      have hS : P.putS v n = [] := by simp [P.putS, hok]
      have hE : P.putE v n = 1 := by simp [P.putE, hok]
      rw [hS, hE]
      clear hpow hpos hok hS hE hd
      go_enter Tryz.func25, Tryz.ntmps25
      go_wp2
      go_ret2
      exact ⟨rfl, Below.refl _ _⟩
  · have hf : P.putOk v n = false := by simp [P.putOk]; omega
    have hS : P.putS v n = [] := by simp [P.putS, hf]
    have hE : P.putE v n = 1 := by simp [P.putE, hf]
    rw [hS, hE]
    clear hf hS hE
    rcases (by omega : n < 1 ∨ (1 ≤ n ∧ 7 < n) ∨ (1 ≤ n ∧ n ≤ 7 ∧ v < 0)) with h | ⟨h, h'⟩ | ⟨h, h', h''⟩ <;>
    (go_enter Tryz.func25, Tryz.ntmps25
     go_wp2
     go_ret2
     exact ⟨rfl, Below.refl _ _⟩)
end Go.Proofs.YtlbdpcokddpjpaaGreatDoor

/- What bits.Nibble, bits.Hex, bits.Unhex return. -/
namespace Go.Proofs.YtlbdpcokddpjpaaGreatDoor
set_option linter.unusedVariables false
open Go.RowKit Go.BigFrame
theorem take_snoc (s : ByteArray) (k : Nat) (h : k < s.size) : s.data.toList.take (k + 1) = s.data.toList.take k ++ [s[k]] := by
  rw [List.take_succ_eq_append_getElem (by simpa using h)]; rfl
theorem small {p : Nat → Prop} (h : p 0 ∧ p 1 ∧ p 2 ∧ p 3 ∧ p 4 ∧ p 5 ∧ p 6 ∧ p 7 ∧ p 8 ∧ p 9 ∧ p 10 ∧ p 11 ∧ p 12 ∧ p 13 ∧ p 14 ∧ p 15) (n : Nat) (hn : n < 16) : p n := by
  obtain ⟨h0, h1, h2, h3, h4, h5, h6, h7, h8, h9, h10, h11, h12, h13, h14, h15⟩ := h
  rcases (by omega : n = 0 ∨ n = 1 ∨ n = 2 ∨ n = 3 ∨ n = 4 ∨ n = 5 ∨ n = 6 ∨ n = 7 ∨ n = 8 ∨ n = 9 ∨ n = 10 ∨ n = 11 ∨ n = 12 ∨ n = 13 ∨ n = 14 ∨ n = 15) with rfl | rfl | rfl | rfl | rfl | rfl | rfl | rfl | rfl | rfl | rfl | rfl | rfl | rfl | rfl | rfl <;> assumption
theorem index_hex (W : World) (n : Nat) (hn : n < 16) : (Instr.index 9 (.string ⟨#[48, 49, 50, 51, 52, 53, 54, 55, 56, 57, 97, 98, 99, 100, 101, 102]⟩) (.int .u8 (n : Int))).run Tryz.prog W = .ok (.int .u8 ((P.hd n).toNat : Int)) W := by
  refine small (p := fun n => (Instr.index 9 (.string ⟨#[48, 49, 50, 51, 52, 53, 54, 55, 56, 57, 97, 98, 99, 100, 101, 102]⟩) (.int .u8 (n : Int))).run Tryz.prog W = .ok (.int .u8 ((P.hd n).toNat : Int)) W) ?_ n hn
  exact ⟨by kernel_rfl, by kernel_rfl, by kernel_rfl, by kernel_rfl, by kernel_rfl, by kernel_rfl, by kernel_rfl, by kernel_rfl, by kernel_rfl, by kernel_rfl, by kernel_rfl, by kernel_rfl, by kernel_rfl, by kernel_rfl, by kernel_rfl, by kernel_rfl⟩
theorem and15 (b : Nat) (hb : b < 256) : bits BinOp.and IntKind.u8 (b : Int) 15 = ((b % 16 : Nat) : Int) := by
  rw [show (15 : Int) = ((15 : Nat) : Int) from rfl, u8_and_nat _ _ hb (by omega)]
  congr 1
  exact Nat.and_two_pow_sub_one_eq_mod b 4
set_option maxRecDepth 100000 in
set_option maxHeartbeats 400000 in
theorem hex_any (s : ByteArray) (w : World) (hs : s.size ≤ 140737488351232) :
    Calls Tryz.prog 26 #[.string s] w fun e w' => e = .returned (.string ⟨(P.hex s.data.toList).toArray⟩) ∧ Below w.heap.size w w' := by
  have hmk : ∀ W : World, (Instr.makeSlice 89 (.int .i64 0) (.int .i64 (2 * (s.size : Int)))).run Tryz.prog W = .ok (.slice (some ⟨W.heap.size, 0, none⟩) 0 (2 * s.size)) (W.alloc (.cells (cellsU8 (List.replicate (2 * s.size) 0)) 5)) := fun W => by
    have := make_bytes .i64 .i64 0 (2 * s.size) (by omega) (by omega) W
    rw [show (((2 * s.size : Nat)) : Int) = 2 * (s.size : Int) from by omega] at this
    exact this
  have Hown := Lib.hid (OwnB.made w (2 * s.size) (by unfold maxLen; omega))
  go_enter Tryz.func26, Tryz.ntmps26
  go_wp2_with fail
  go_loopw [3, 11] (fun v x wr => ∃ k : Nat, k ≤ s.size ∧ x = .int .i64 k ∧ v = .slice (some ⟨w.heap.size, 0, none⟩) (P.hex (s.data.toList.take k)).length (2 * s.size) ∧ OwnB wr w.heap.size v (P.hex (s.data.toList.take k)) ∧ Below w.heap.size w wr) (fun _ x _ => s.size - (intOf x).toNat)
  case atStart => exact ⟨0, by omega, rfl, rfl, Hown.out, (Below.refl _ _).alloc (Nat.le_refl _) _⟩
  case round =>
    obtain ⟨k, hk, rfl, rfl, hown, hbel⟩ := hrel
    by_cases hlt : k < s.size
    · have hb : s[k].toNat < 256 := s[k].toNat_lt
      have ha := and15 s[k].toNat hb
      have hi1 : ∀ W : World, _ := fun W => index_hex W (s[k].toNat / 16) (by omega)
      rw [show ((s[k].toNat / 16 : Nat) : Int) = (s[k].toNat : Int) / 16 from by omega] at hi1
      have hi2 : ∀ W : World, _ := fun W => index_hex W (s[k].toNat % 16) (by omega)
      rw [show ((s[k].toNat % 16 : Nat) : Int) = (s[k].toNat : Int) % 16 from by omega] at hi2
      rw [show ((s[k].toNat % 16 : Nat) : Int) = (s[k].toNat : Int) % 16 from by omega] at ha
      have hsn := take_snoc s k hlt
      have HS := Lib.hid (show P.hex (s.data.toList.take (k + 1)) = P.hex (s.data.toList.take k) ++ P.hexB s[k] from by rw [hsn, P.hex_snoc])
      clear hsn
      have hl := P.hex_length (s.data.toList.take k)
      rw [List.length_take, Nat.min_eq_left (by simpa using hk)] at hl
      have HL := Lib.hid hl
      clear hl
      generalize P.hex (s.data.toList.take k) = l at *
      go_wp2_with fail
      go_region_law (refine step_append_bytes_fits rfl (.tmp 14) (.tmp 25) rfl w.heap.size w.heap.size (2 * s.size) l (by simp [Act.eval]) (hown.drew.alloc _) ⟨wr.heap.size, 0, none⟩ 2 2 (P.hexB s[k]) (by simp [Act.eval]) rfl (newsU8 wr 5 (P.hexB s[k])) (by have := HL.out; omega) (by have := hbel.size; simp; omega) ?_; intro w2 hown2 hbel2)
      all_goals
        have Hb2 := Lib.hid (show Below w.heap.size w w2 from (hbel.drew.alloc (by have := hbel.size; simpa using this) _).trans hbel2)
        clear hbel2
        go_wp2
        go_roundw
        case rel => exact ⟨k + 1, by omega, by go_num, by rw [HS.out]; simp, by rw [HS.out]; simpa using hown2, Hb2.out⟩
        case measure => simp [intOf]; omega
    · have hkn : k = s.size := by omega
      subst hkn
      have HT := Lib.hid (show P.hex (s.data.toList.take s.size) = P.hex s.data.toList from by rw [List.take_of_length_le (by simp)])
      generalize P.hex (s.data.toList.take s.size) = l at *
      have hst := hown.string
      clear hown
      go_wp2
      go_ret
      rw [← HT.out]
      exact ⟨rfl, hbel⟩
set_option maxRecDepth 100000 in
set_option maxHeartbeats 400000 in
theorem refHex_any (s : ByteArray) (w : World) (hs : s.size ≤ 140737488351232) :
    Calls Tryz.prog 81 #[.string s] w fun e w' => e = .returned (.string ⟨(P.hex s.data.toList).toArray⟩) ∧ Below w.heap.size w w' := by
  have hmk : ∀ W : World, (Instr.makeSlice 89 (.int .i64 0) (.int .i64 (2 * (s.size : Int)))).run Tryz.prog W = .ok (.slice (some ⟨W.heap.size, 0, none⟩) 0 (2 * s.size)) (W.alloc (.cells (cellsU8 (List.replicate (2 * s.size) 0)) 5)) := fun W => by
    have := make_bytes .i64 .i64 0 (2 * s.size) (by omega) (by omega) W
    rw [show (((2 * s.size : Nat)) : Int) = 2 * (s.size : Int) from by omega] at this
    exact this
  have Hown := Lib.hid (OwnB.made w (2 * s.size) (by unfold maxLen; omega))
  go_enter Tryz.func81, Tryz.ntmps81
  go_wp2_with fail
  go_loopw [3, 4] (fun v x wr => ∃ k : Nat, k ≤ s.size ∧ x = .int .i64 k ∧ v = .slice (some ⟨w.heap.size, 0, none⟩) (P.hex (s.data.toList.take k)).length (2 * s.size) ∧ OwnB wr w.heap.size v (P.hex (s.data.toList.take k)) ∧ Below w.heap.size w wr) (fun _ x _ => s.size - (intOf x).toNat)
  case atStart => exact ⟨0, by omega, rfl, rfl, Hown.out, (Below.refl _ _).alloc (Nat.le_refl _) _⟩
  case round =>
    obtain ⟨k, hk, rfl, rfl, hown, hbel⟩ := hrel
    by_cases hlt : k < s.size
    · have hb : s[k].toNat < 256 := s[k].toNat_lt
      have hw1 : IntKind.u8.wrap ((s[k].toNat : Int) / 16) = (s[k].toNat : Int) / 16 := by rw [IntKind.wrap_u8']; omega
      have hw2 : ((s[k].toNat : Int)).tmod 16 = (s[k].toNat : Int) % 16 := Int.tmod_eq_emod_of_nonneg (by omega)
      have hi1 : ∀ W : World, _ := fun W => index_hex W (s[k].toNat / 16) (by omega)
      rw [show ((s[k].toNat / 16 : Nat) : Int) = (s[k].toNat : Int) / 16 from by omega] at hi1
      have hi2 : ∀ W : World, _ := fun W => index_hex W (s[k].toNat % 16) (by omega)
      rw [show ((s[k].toNat % 16 : Nat) : Int) = (s[k].toNat : Int) % 16 from by omega] at hi2
      have hsn := take_snoc s k hlt
      have HS := Lib.hid (show P.hex (s.data.toList.take (k + 1)) = P.hex (s.data.toList.take k) ++ P.hexB s[k] from by rw [hsn, P.hex_snoc])
      clear hsn
      have hl := P.hex_length (s.data.toList.take k)
      rw [List.length_take, Nat.min_eq_left (by simpa using hk)] at hl
      have HL := Lib.hid hl
      clear hl
      generalize P.hex (s.data.toList.take k) = l at *
      go_wp2_with fail
      go_region_law (refine step_append_bytes_fits rfl (.tmp 15) (.tmp 26) rfl w.heap.size w.heap.size (2 * s.size) l (by simp [Act.eval]) (hown.drew.alloc _) ⟨wr.heap.size, 0, none⟩ 2 2 (P.hexB s[k]) (by simp [Act.eval]) rfl (newsU8 wr 5 (P.hexB s[k])) (by have := HL.out; omega) (by have := hbel.size; simp; omega) ?_; intro w2 hown2 hbel2)
      all_goals
        have Hb2 := Lib.hid (show Below w.heap.size w w2 from (hbel.drew.alloc (by have := hbel.size; simpa using this) _).trans hbel2)
        clear hbel2
        go_wp2
        go_roundw
        case rel => exact ⟨k + 1, by omega, by go_num, by rw [HS.out]; simp, by rw [HS.out]; simpa using hown2, Hb2.out⟩
        case measure => simp [intOf]; omega
    · have hkn : k = s.size := by omega
      subst hkn
      have HT := Lib.hid (show P.hex (s.data.toList.take s.size) = P.hex s.data.toList from by rw [List.take_of_length_le (by simp)])
      generalize P.hex (s.data.toList.take s.size) = l at *
      have hst := hown.string
      clear hown
      go_wp2
      go_ret
      rw [← HT.out]
      exact ⟨rfl, hbel⟩
end Go.Proofs.YtlbdpcokddpjpaaGreatDoor

/- A disk in memory: IsName; Fuse, Room, Restore. -/
namespace Go.Proofs.YtlbdpcokddpjpaaGreatDoor
set_option linter.unusedVariables false
open Go Go.RowKit Go.BigFrame
namespace Dk
def signs : List UInt8 := [97, 98, 99, 100, 101, 102, 103, 104, 105, 106, 107, 108, 109, 110, 111, 112, 113, 114, 115, 116, 117, 118, 119, 120, 121, 122, 48, 49, 50, 51, 52, 53, 54, 55, 56, 57, 46, 45, 95, 47]
set_option maxRecDepth 100000 in
theorem signs_ok (b : UInt8) : signs.contains b = sign b := by
  have h : ∀ n : Fin 256, signs.contains (UInt8.ofNat n.val) = sign (UInt8.ofNat n.val) := by decide
  have := h ⟨b.toNat, b.toNat_lt⟩
  simpa using this
theorem trim_nil (l : List UInt8) : Lib.trimS l signs = [] ↔ l.all sign = true := by
  have h1 : ∀ l : List UInt8, l.dropWhile (signs.contains ·) = [] ↔ l.all sign = true := by
    intro l
    induction l with
    | nil => simp
    | cons b l ih =>
      rw [List.dropWhile_cons, List.all_cons, signs_ok]
      cases sign b with
      | true => simpa using ih
      | false => simp
  unfold Lib.trimS Lib.trimLeftS Lib.trimRightS
  rw [h1, List.all_reverse]
  constructor
  · intro h
    have h2 : l.reverse.dropWhile (signs.contains ·) = [] := by
      cases hd : l.reverse.dropWhile (signs.contains ·) with
      | nil => rfl
      | cons b t =>
        have hb : signs.contains b = false := by
          have := List.head?_dropWhile_not (signs.contains ·) l.reverse
          rw [hd] at this
          simpa using this
        rw [hd, List.all_cons, ← signs_ok, hb] at h
        simp at h
    have := (h1 _).1 h2
    rwa [List.all_reverse] at this
  · intro h
    rw [(h1 l.reverse).2 (by rwa [List.all_reverse])]
    rfl
end Dk
set_option maxRecDepth 100000 in
set_option maxHeartbeats 1000000 in
theorem isName_any : NameOk := by
  intro s w hs
  have K := Lib.hid (Tryz.strings_Trim (by kernel_rfl) s ⟨#[97, 98, 99, 100, 101, 102, 103, 104, 105, 106, 107, 108, 109, 110, 111, 112, 113, 114, 115, 116, 117, 118, 119, 120, 121, 122, 48, 49, 50, 51, 52, 53, 54, 55, 56, 57, 46, 45, 95, 47]⟩ w hs (by decide) (ascii_of_all (by decide)))
  have HN := Lib.hid (show Dk.isName s = (decide (0 < s.size) && decide (s.size ≤ 64) && s.data.toList.all Dk.sign) from rfl)
  generalize Dk.isName s = r at *
  have hsz : s.toList.length = s.size := by rw [ByteArray.toList_eq]; simp
  rcases Nat.eq_zero_or_pos s.size with h0 | h0
  · have he : s.toList.isEmpty = true := by rw [List.isEmpty_iff]; exact List.eq_nil_of_length_eq_zero (by omega)
    have hr := Lib.hid (show r = false by rw [HN.out, h0]; rfl)
    go_enter Tryz.func94, Tryz.ntmps94
    go_wp2_with fail
    go_ret
    rw [hr.out]
    exact ⟨rfl, Below.refl _ _⟩
  · have he : s.toList.isEmpty = false := by
      cases h : s.toList with
      | nil => rw [h] at hsz; simp at hsz; omega
      | cons _ _ => rfl
    by_cases h1 : s.size ≤ 64
    · have h64 : (64 < (s.size : Int)) = False := by simp; omega
      have hr := Lib.hid (show r = s.data.toList.all Dk.sign by rw [HN.out]; simp [h0, h1])
      have ht := Lib.hid (Dk.trim_nil s.data.toList)
      clear hsz
      go_enter Tryz.func94, Tryz.ntmps94
      go_wp2_with fail
      refine K.out.mono ?_
      rintro x w2 ⟨rfl, hb⟩
      have e : Lib.trimS s.data.toList [97, 98, 99, 100, 101, 102, 103, 104, 105, 106, 107, 108, 109, 110, 111, 112, 113, 114, 115, 116, 117, 118, 119, 120, 121, 122, 48, 49, 50, 51, 52, 53, 54, 55, 56, 57, 46, 45, 95, 47] = Lib.trimS s.data.toList Dk.signs := rfl
      rw [e]
      clear e
      generalize Lib.trimS s.data.toList Dk.signs = t at ht
      go_wp2_with fail
      go_ret
      rw [hr.out]
      refine ⟨?_, hb⟩
      have h2 : t.isEmpty = s.data.toList.all Dk.sign := by
        have h := ht.out
        cases t with
        | nil => exact (h.1 rfl).symm
        | cons b t =>
          cases ha : s.data.toList.all Dk.sign with
          | true => exact absurd (h.2 ha) (by simp)
          | false => rfl
      show Ending.returned (.bool t.isEmpty) = .returned (.bool (s.data.toList.all Dk.sign))
      rw [h2]
    · have h64 : (64 < (s.size : Int)) = True := by simp; omega
      have hr := Lib.hid (show r = false by rw [HN.out]; simp [h1])
      go_enter Tryz.func94, Tryz.ntmps94
      go_wp2_with fail
      go_ret
      rw [hr.out]
      exact ⟨rfl, Below.refl _ _⟩
section
variable {g m : Nat} {d : Dk.Disk}
def Dk.fused (d : Dk.Disk) (n cut flip : Int) : Dk.Disk := { d with fuse := if 0 ≤ n then some ⟨n, cut, flip⟩ else none }
set_option maxRecDepth 100000 in
set_option maxHeartbeats 1000000 in
theorem fuse_any (w : World) (h : DiskAt w g m d) (n cut flip : Int) :
    Calls Tryz.prog 17 #[.pointer (some ⟨g, 0, none⟩), .int .i64 n, .int .i64 cut, .int .i64 flip] w fun e w' => e = .returned (.tuple #[]) ∧ DiskAt w' g m (Dk.fused d n cut flip) ∧ Chg g m w w' := by
  have HD := Lib.hid h
  obtain ⟨⟨fp, acts, hb, _⟩, hm⟩ := h
  have q : ∀ (w : World) (r : Option Nat), (binOp .eql 57 (.map r) (.map none)).run Tryz.prog w = .ok (.bool r.isNone) w := fun w r => run_eql_map_nil w _ _ _ r Tryz.underlying57
  have c := fun i => hb.cell i
  have fz := fun i => hb.frozen i
  have hb1 := hb.set_ 3 (.pointer none)
  have D1 := Lib.hid (HD.out.fused (fp := none) (u := none) rfl (fun k hk => by cases hk))
  have hg := HD.out.lt.1
  by_cases hn : 0 ≤ n
  · have hb2 := hb1.alloc (.cells #[.int .i64 n, .int .i64 cut, .int .i64 flip] 88)
    have c2 := fun i => hb2.cell i
    have fz2 := fun i => hb2.frozen i
    have D2 := Lib.hid (D1.out.alloc (.cells #[.int .i64 n, .int .i64 cut, .int .i64 flip] 88))
    have D3 := Lib.hid (D2.out.fused (fp := some ⟨w.heap.size, 0, none⟩) (u := some ⟨n, cut, flip⟩) ⟨_, rfl, by have := Blk.new (w.setCell ⟨g, 3, none⟩ (.pointer none)) 88 #[.int .i64 n, .int .i64 cut, .int .i64 flip]; rwa [show (w.setCell ⟨g, 3, none⟩ (.pointer none)).heap.size = w.heap.size by simp [World.setCell]] at this⟩ (fun k hk => by cases hk; omega))
    have HB := Lib.hid hb
    clear hb hb1 hb2 hm
    go_enter Tryz.func17, Tryz.ntmps17
    go_wp2_with fail
    refine bodyPost_end (results_none rfl _ _ _) rfl ⟨rfl, ?_, ?_⟩
    · unfold Dk.fused
      rw [if_pos hn]
      have := D3.out
      rwa [World.setCell_alloc_past _ _ _ _ (show g < (w.setCell ⟨g, 3, none⟩ (.pointer none)).heap.size by simp [World.setCell]; omega)] at this
    · exact Chg.below (Chg.grown (Chg.grown (Chg.refl g m w) (grown_set w g 3 (.pointer none)) (fun r hr => by cases hr; exact .inl rfl)) (grown_set _ g 3 _) (fun r hr => by cases hr; exact .inl rfl)) ((Below.refl _ _).alloc (Nat.le_refl _) _)
  · have HB := Lib.hid hb
    clear hb hb1 hm
    go_enter Tryz.func17, Tryz.ntmps17
    go_wp2_with fail
    refine bodyPost_end (results_none rfl _ _ _) rfl ⟨rfl, ?_, ?_⟩
    · unfold Dk.fused
      rw [if_neg (by omega)]
      exact D1.out
    · exact Chg.grown (Chg.refl g m w) (grown_set _ g _ _) (fun r hr => by cases hr; exact .inl rfl)
def Dk.restored (d : Dk.Disk) : Dk.Disk := { d with on := true }
theorem DiskAt.turned {w : World} (h : DiskAt w g m d) (x : Bool) : DiskAt (w.setCell ⟨g, 1, none⟩ (.bool x)) g m { d with on := x } := by
  obtain ⟨⟨fp0, acts, hb, h2⟩, hm⟩ := h
  have hgm := blk_ne_map hb hm
  refine ⟨⟨fp0, acts, hb.set_ 1 _, h2.keep (fun k hk => Below.heap_setCell _ _ _ _ (fun e => ?_))⟩, hm.set_ (fun e => hgm e.symm) _⟩
  simp only at e
  subst e
  cases hu : d.fuse with
  | none => rw [hu] at h2; rw [h2] at hk; cases hk
  | some u =>
    rw [hu] at h2
    obtain ⟨k', hk', hb'⟩ := h2
    rw [hk] at hk'
    cases hk'
    exact blk_ne hb hb' (by decide) rfl
set_option maxRecDepth 100000 in
set_option maxHeartbeats 1000000 in
theorem restore_any (w : World) (h : DiskAt w g m d) :
    Calls Tryz.prog 20 #[.pointer (some ⟨g, 0, none⟩)] w fun e w' => e = .returned (.tuple #[]) ∧ DiskAt w' g m (Dk.restored d) ∧ Chg g m w w' := by
  have HD := Lib.hid h
  obtain ⟨⟨fp, acts, hb, _⟩, hm⟩ := h
  have q : ∀ (w : World) (r : Option Nat), (binOp .neq 57 (.map r) (.map none)).run Tryz.prog w = .ok (.bool (!r.isNone)) w := fun w r => run_neq_map_nil w _ _ _ r Tryz.underlying57
  have c := fun i => hb.cell i
  have fz := fun i => hb.frozen i
  have D1 := Lib.hid (HD.out.turned true)
  clear hb hm
  go_enter Tryz.func20, Tryz.ntmps20
  go_wp2_with fail
  refine bodyPost_end (results_none rfl _ _ _) rfl ⟨rfl, D1.out, Chg.grown (Chg.refl g m w) (grown_set _ g _ _) (fun r hr => by cases hr; exact .inl rfl)⟩
def Dk.roomed (d : Dk.Disk) (n : Int) : Dk.Disk := { d with room := max n (-1) }
set_option maxRecDepth 100000 in
set_option maxHeartbeats 1000000 in
theorem room_any (w : World) (h : DiskAt w g m d) (n : Int) :
    Calls Tryz.prog 8 #[.pointer (some ⟨g, 0, none⟩), .int .i64 n] w fun e w' => e = .returned (.tuple #[]) ∧ DiskAt w' g m (Dk.roomed d n) ∧ Chg g m w w' := by
  have HD := Lib.hid h
  obtain ⟨⟨fp, acts, hb, _⟩, hm⟩ := h
  have q : ∀ (w : World) (r : Option Nat), (binOp .neq 57 (.map r) (.map none)).run Tryz.prog w = .ok (.bool (!r.isNone)) w := fun w r => run_neq_map_nil w _ _ _ r Tryz.underlying57
  have c := fun i => hb.cell i
  have fz := fun i => hb.frozen i
  have D1 := Lib.hid (HD.out.roomed (max n (-1)))
  clear hb hm
  go_enter Tryz.func8, Tryz.ntmps8
  go_wp2_with fail
  refine bodyPost_end (results_none rfl _ _ _) rfl ⟨rfl, D1.out, Chg.grown (Chg.refl g m w) (grown_set _ g _ _) (fun r hr => by cases hr; exact .inl rfl)⟩
end
end Go.Proofs.YtlbdpcokddpjpaaGreatDoor

/- A disk in memory: Read. -/
namespace Go.Proofs.YtlbdpcokddpjpaaGreatDoor
set_option linter.unusedVariables false
open Go Go.RowKit Go.BigFrame
section
variable {g m : Nat} {d : Dk.Disk}
set_option maxRecDepth 100000 in
set_option maxHeartbeats 1000000 in
theorem read_any (w : World) (h : DiskAt w g m d) (x : ByteArray) (hx : x.size ≤ 9223372036854775807) :
    Calls Tryz.prog 15 #[.pointer (some ⟨g, 0, none⟩), .string x] w fun e w' => e = .returned (.tuple #[.string (Dk.read d x).1, .int .i64 (Dk.read d x).2]) ∧ Below w.heap.size w w' := by
  have hb : Below w.heap.size w (w.alloc (.cells #[.string x] 9)) := (Below.refl _ w).alloc (Nat.le_refl _) _
  have KA := Lib.hid (asked_any isName_any _ g m d (h.below hb) (some ⟨w.heap.size, 0, none⟩) 1 1 [x] (StrsAt.blk (Blk.new w 9 #[.string x])) (by unfold maxLen; omega) (fun s hs => by simp at hs; rw [hs]; exact hx))
  have HB := Lib.hid hb
  have HD := Lib.hid (h.below hb)
  clear hb h
  go_enter Tryz.func15, Tryz.ntmps15
  go_wp2_with fail
  refine KA.out.mono ?_
  rintro y9 w4 ⟨rfl, hb4⟩
  have B4 := Lib.hid (bt'' HB.out hb4)
  have HD4 := Lib.hid (HD.out.below hb4)
  clear hb4 KA
  have hno : Dk.asked d.on [x] ≠ 0 → Dk.read d x = (ByteArray.empty, Dk.asked d.on [x]) := fun hne => by unfold Dk.read; rw [if_pos hne]
  rcases asked_cases d.on [x] with h0 | h0 | h0
  · have h0' := Lib.hid h0
    rw [h0]
    clear hno h0
    obtain ⟨⟨fp, acts, hbk, _⟩, hm⟩ := HD4.out
    have c := fun i => hbk.cell i
    have hlk := look_file hm x
    clear hbk hm
    cases hg : Dk.get d.files x with
    | none =>
      have HA := Lib.hid (show Dk.read d x = (ByteArray.empty, 22) from by unfold Dk.read; rw [if_neg (by rw [h0'.out]; simp), hg])
      rw [hg] at hlk
      clear hg h0'
      simp only [fileOr, Option.getD_none, Option.isSome_none] at hlk
      go_wp2
      refine bodyPost_ret (results_tmp2 rfl _ _ _) rfl ?_
      rw [HA.out]
      exact ⟨rfl, B4.out.alloc (B4.out.size) _⟩
    | some f =>
      have HA := Lib.hid (show Dk.read d x = (f.data, 0) from by unfold Dk.read; rw [if_neg (by rw [h0'.out]; simp), hg])
      rw [hg] at hlk
      clear hg h0'
      simp only [fileOr, Option.getD_some, Option.isSome_some] at hlk
      go_wp2
      refine bodyPost_ret (results_tmp2 rfl _ _ _) rfl ?_
      rw [HA.out]
      exact ⟨rfl, B4.out.alloc (B4.out.size) _⟩
  · have HC := Lib.hid (hno (by rw [h0]; simp))
    rw [h0] at HC ⊢
    clear hno h0
    go_wp2
    refine bodyPost_ret (results_tmp2 rfl _ _ _) rfl ?_
    rw [HC.out]
    exact ⟨rfl, B4.out⟩
  · have HC := Lib.hid (hno (by rw [h0]; simp))
    rw [h0] at HC ⊢
    clear hno h0
    go_wp2
    refine bodyPost_ret (results_tmp2 rfl _ _ _) rfl ?_
    rw [HC.out]
    exact ⟨rfl, B4.out⟩
end
end Go.Proofs.YtlbdpcokddpjpaaGreatDoor
