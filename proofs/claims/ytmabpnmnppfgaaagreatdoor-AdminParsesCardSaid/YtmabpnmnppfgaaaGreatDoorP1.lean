/- Part P1 of the proof: the statement that is proved stands in the text that ends with its name. No conditions beyond the card's. -/
import Derived.Test.YtmabpnmnppfgaaaGreatDoorWy
import Derived.Laws.BitsAllLaws
import Derived.Laws.BitsLemmas
import Derived.OwnWalk
import Derived.Laws.OwnMore
import Derived.StillTailTactics
namespace Go.Proofs.YtmabpnmnppfgaaaGreatDoor.P
set_option linter.unusedVariables false
def ones : Nat := 4294967295
end Go.Proofs.YtmabpnmnppfgaaaGreatDoor.P
namespace Go.Proofs.YtmabpnmnppfgaaaGreatDoor.P
set_option linter.unusedVariables false
def add (a b : Int) : Int := if max a 0 > 9223372036854775807 - max b 0 then 9223372036854775807 else max a 0 + max b 0
def digitsN (fuel n : Nat) : List UInt8 := match fuel with
  | 0 => []
  | f + 1 => (if n / 10 = 0 then [] else digitsN f (n / 10)) ++ [UInt8.ofNat (48 + n % 10)]
def digits (v : Int) : List UInt8 := (if v < 0 then [45] else []) ++ digitsN 20 v.natAbs
theorem digitsN_length (f : Nat) : ∀ n k : Nat, 1 ≤ k → n < 10 ^ k → (digitsN f n).length ≤ k := by
  induction f with
  | zero => intro n k _ _; simp [digitsN]
  | succ f ih =>
    intro n k hk hn
    unfold digitsN
    split
    · simp; omega
    · rename_i h
      have hk2 : 2 ≤ k := by
        rcases Nat.lt_or_ge k 2 with h2 | h2
        · have : k = 1 := by omega
          subst this
          omega
        · exact h2
      have h3 : n / 10 < 10 ^ (k - 1) := by
        rw [Nat.div_lt_iff_lt_mul (by omega), ← Nat.pow_succ, show (k - 1).succ = k from by omega]; exact hn
      have := ih (n / 10) (k - 1) (by omega) h3
      simp; omega
end Go.Proofs.YtmabpnmnppfgaaaGreatDoor.P
namespace Go.Proofs.YtmabpnmnppfgaaaGreatDoor.P
set_option linter.unusedVariables false
def nib (c : UInt8) : Int :=
  if 48 ≤ c.toNat ∧ c.toNat ≤ 57 then (c.toNat : Int) - 48 else if 97 ≤ c.toNat ∧ c.toNat ≤ 102 then (c.toNat : Int) - 87 else if 65 ≤ c.toNat ∧ c.toNat ≤ 70 then (c.toNat : Int) - 55 else -1
theorem nib_lt (c : UInt8) : -1 ≤ nib c ∧ nib c < 16 := by unfold nib; omega
def hd (n : Nat) : UInt8 := UInt8.ofNat (if n < 10 then 48 + n else 87 + n)
theorem nib_hd (n : Nat) (h : n < 16) : nib (hd n) = n := by
  have e : (hd n).toNat = if n < 10 then 48 + n else 87 + n := by unfold hd; simp; split <;> omega
  unfold nib
  rw [e]
  by_cases h10 : n < 10
  · simp only [h10, if_true]; rw [if_pos (by omega)]; omega
  · simp only [h10, if_false]; rw [if_neg (by omega), if_pos (by omega)]; omega
def hexB (b : UInt8) : List UInt8 := [hd (b.toNat / 16), hd (b.toNat % 16)]
def hex (l : List UInt8) : List UInt8 := l.flatMap hexB
theorem hex_length (l : List UInt8) : (hex l).length = 2 * l.length := by
  induction l with
  | nil => rfl
  | cons b l ih => simp [hex, hexB] at *; omega
theorem hex_snoc (l : List UInt8) (b : UInt8) : hex (l ++ [b]) = hex l ++ hexB b := by simp [hex]
def unhex : List UInt8 → Option (List UInt8)
  | [] => some []
  | [_] => none
  | a :: b :: r => if nib a < 0 ∨ nib b < 0 then none else (unhex r).map (UInt8.ofNat (16 * (nib a).toNat + (nib b).toNat) :: ·)
def unhexS (l : List UInt8) : List UInt8 := (unhex l).getD []
def unhexE (l : List UInt8) : Int := if (unhex l).isSome then 0 else 10
theorem unhex_odd : ∀ (l : List UInt8), l.length % 2 = 1 → unhex l = none
  | [], h => by simp at h
  | [_], _ => rfl
  | a :: b :: r, h => by
    unfold unhex
    split
    · rfl
    · rw [unhex_odd r (by simp at h; omega)]; rfl
theorem unhex_hex (l : List UInt8) : unhex (hex l) = some l := by
  induction l with
  | nil => rfl
  | cons b l ih =>
    have hb := b.toNat_lt
    have e : hex (b :: l) = hd (b.toNat / 16) :: hd (b.toNat % 16) :: hex l := rfl
    rw [e]
    unfold unhex
    rw [nib_hd _ (by omega), nib_hd _ (by omega), if_neg (by omega), ih]
    simp only [Option.map_some, Int.toNat_natCast]
    congr 2
    rw [show 16 * (b.toNat / 16) + b.toNat % 16 = b.toNat from by omega]
    simp
end Go.Proofs.YtmabpnmnppfgaaaGreatDoor.P
namespace Go.Proofs.YtmabpnmnppfgaaaGreatDoor.P
set_option linter.unusedVariables false
theorem snoc_ind {α : Type} {m : List α → Prop} (h0 : m []) (h1 : ∀ l a, m l → m (l ++ [a])) (l : List α) : m l := by
  have : ∀ r : List α, m r.reverse := by
    intro r
    induction r with
    | nil => exact h0
    | cons a r ih => rw [List.reverse_cons]; exact h1 _ _ ih
  simpa using this l.reverse
def digit (b : UInt8) : Bool := decide (48 ≤ b.toNat ∧ b.toNat ≤ 57)
def numN (l : List UInt8) : Nat := l.foldl (fun v b => 10 * v + (b.toNat - 48)) 0
theorem numN_snoc (l : List UInt8) (b : UInt8) : numN (l ++ [b]) = 10 * numN l + (b.toNat - 48) := by simp [numN, List.foldl_append]
theorem numN_lt (l : List UInt8) (h : ∀ b ∈ l, digit b = true) : numN l < 10 ^ l.length := by
  refine snoc_ind (m := fun l => (∀ b ∈ l, digit b = true) → numN l < 10 ^ l.length) (by simp [numN]) ?_ l h
  · intro l b ih h
    rw [numN_snoc, List.length_append, List.length_singleton, Nat.pow_succ]
    have h1 := ih fun x hx => h x (by simp [hx])
    have h2 := h b (by simp)
    simp [digit] at h2
    omega
def numOk (l : List UInt8) : Bool :=
  decide (1 ≤ l.length ∧ l.length ≤ 10 ∧ ¬ (1 < l.length ∧ l.head? = some 48)) && l.all digit && decide (numN l ≤ 2147483647)
def numV (l : List UInt8) : Int := if numOk l = true then (numN l : Int) else 0
def numE (l : List UInt8) : Int := if numOk l = true then 0 else 11
end Go.Proofs.YtmabpnmnppfgaaaGreatDoor.P
namespace Go.Proofs.YtmabpnmnppfgaaaGreatDoor.P
set_option linter.unusedVariables false
theorem digit_toNat (n : Nat) : (UInt8.ofNat (48 + n % 10)).toNat = 48 + n % 10 := by
  have : 48 + n % 10 < 256 := by omega
  simp [Nat.mod_eq_of_lt this]
theorem digitsN_spec (f : Nat) : ∀ n, n < 10 ^ f → numN (digitsN f n) = n ∧ (∀ b ∈ digitsN f n, digit b = true) := by
  induction f with
  | zero => intro n h; simp at h; subst h; simp [digitsN, numN]
  | succ f ih =>
    intro n h
    have hd : digit (UInt8.ofNat (48 + n % 10)) = true := by
      unfold digit; rw [digit_toNat]; exact decide_eq_true (by omega)
    unfold digitsN
    split
    · refine ⟨?_, ?_⟩
      · simp only [List.nil_append, numN, List.foldl_cons, List.foldl_nil, digit_toNat]; omega
      · intro b hb; simp only [List.nil_append, List.mem_singleton] at hb; rw [hb]; exact hd
    · rename_i h0
      have hlt : n / 10 < 10 ^ f := by rw [Nat.div_lt_iff_lt_mul (by omega), ← Nat.pow_succ]; exact h
      obtain ⟨h1, h2⟩ := ih (n / 10) hlt
      refine ⟨?_, ?_⟩
      · rw [numN_snoc, h1, digit_toNat]; omega
      · intro b hb
        rcases List.mem_append.1 hb with hb | hb
        · exact h2 b hb
        · rw [List.mem_singleton.1 hb]; exact hd
theorem digitsN_ne (f n : Nat) : digitsN (f + 1) n ≠ [] := by unfold digitsN; simp
theorem digitsN_head (f : Nat) : ∀ n, 0 < n → n < 10 ^ f → (digitsN f n).head? ≠ some 48 := by
  induction f with
  | zero => intro n h0 h; simp at h; omega
  | succ f ih =>
    intro n h0 h
    unfold digitsN
    split
    · simp only [List.nil_append, List.head?_cons]
      intro e
      have := congrArg UInt8.toNat (Option.some.inj e)
      rw [digit_toNat] at this
      simp at this
      omega
    · rename_i h1
      have hlt : n / 10 < 10 ^ f := by rw [Nat.div_lt_iff_lt_mul (by omega), ← Nat.pow_succ]; exact h
      have hf : f ≠ 0 := by rintro rfl; simp at hlt; omega
      obtain ⟨k, rfl⟩ : ∃ k, f = k + 1 := ⟨f - 1, by omega⟩
      have hne := digitsN_ne k (n / 10)
      have hih := ih (n / 10) (by omega) hlt
      rcases h9 : digitsN (k + 1) (n / 10) with _ | ⟨b, l⟩
      · exact absurd h9 hne
      · rw [h9] at hih; simpa using hih
theorem numOk_digits (v : Int) (h1 : -9223372036854775808 ≤ v) (h2 : v ≤ 9223372036854775807) : numOk (digits v) = decide (0 ≤ v ∧ v ≤ 2147483647) ∧ (0 ≤ v → (numN (digits v) : Int) = v) := by
  by_cases hv : v < 0
  · refine ⟨?_, fun h => by omega⟩
    rw [decide_eq_false (by omega)]
    have : (digits v).all digit = false := by
      simp only [digits, hv, if_true, List.singleton_append, List.all_cons]
      rfl
    simp [numOk, this]
  · obtain ⟨n, rfl⟩ := Int.eq_ofNat_of_zero_le (by omega : 0 ≤ v)
    have hd : digits (n : Int) = digitsN 20 n := by simp [digits]
    rw [hd]
    obtain ⟨s1, s2⟩ := digitsN_spec 20 n (by omega)
    refine ⟨?_, fun _ => by rw [s1]⟩
    have ha : (digitsN 20 n).all digit = true := List.all_eq_true.2 s2
    by_cases hb : n ≤ 2147483647
    · rw [decide_eq_true (by omega)]
      unfold numOk
      rw [ha, s1]
      have hl := digitsN_length 20 n 10 (by omega) (by omega)
      have h0 : 1 ≤ (digitsN 20 n).length := by
        rcases h : digitsN 20 n with _ | ⟨b, l⟩
        · exact absurd h (digitsN_ne 19 n)
        · simp
      rw [decide_eq_true (p := n ≤ 2147483647) hb, decide_eq_true]
      · rfl
      · refine ⟨h0, hl, ?_⟩
        rintro ⟨ha, hb⟩
        rcases Nat.eq_zero_or_pos n with h | h
        · subst h; revert ha; decide
        · exact digitsN_head 20 n h (by omega) hb
    · rw [decide_eq_false (by omega)]
      unfold numOk
      rw [s1, decide_eq_false (p := n ≤ 2147483647) hb]
      simp
end Go.Proofs.YtmabpnmnppfgaaaGreatDoor.P
namespace Go.Proofs.YtmabpnmnppfgaaaGreatDoor
set_option linter.unusedVariables false
open Go.RowKit
theorem ofInt_i64 (a : Nat) (ha : a < 9223372036854775808) : (BitVec.ofInt 64 (a : Int)).toNat = a := by
  rw [BitVec.ofInt_natCast, BitVec.toNat_ofNat]; exact Nat.mod_eq_of_lt (by omega)
theorem i64_or_nat (a b : Nat) (ha : a < 9223372036854775808) (hb : b < 9223372036854775808) : bits .or .i64 (a : Int) (b : Int) = ((a ||| b : Nat) : Int) := by
  have hx : a ||| b < 2 ^ 63 := Nat.or_lt_two_pow (by omega) (by omega)
  show IntKind.i64.wrap ((BitVec.ofInt 64 (a : Int) ||| BitVec.ofInt 64 (b : Int)).toNat : Int) = _
  rw [BitVec.toNat_or, ofInt_i64 a ha, ofInt_i64 b hb, IntKind.wrap_i64]
  omega
end Go.Proofs.YtmabpnmnppfgaaaGreatDoor
namespace Go.Proofs.YtmabpnmnppfgaaaGreatDoor
set_option linter.unusedVariables false
open Go.RowKit
def valU8 (b : UInt8) : Value := .int .u8 (b.toNat : Int)
def OwnB (w : World) (B : Nat) (v : Value) (l : List UInt8) : Prop := w.ownsRow B 5 1 v l.length (l.map valU8)
theorem valU8_one (l : List UInt8) : ∀ u ∈ l.map valU8, u.oneCell' = true := by
  intro u hu
  obtain ⟨_, _, rfl⟩ := List.mem_map.1 hu
  rfl
section
variable {w w' : World} {B B' : Nat} {v : Value} {l : List UInt8}
theorem OwnB.nil (w : World) (B : Nat) : OwnB w B (.slice none 0 0) [] := World.ownsRow_nil _ _ _ _
theorem OwnB.drew (h : OwnB w B v l) : OwnB w.drew B v l := h
theorem OwnB.drewN (h : OwnB w B v l) (n : Nat) : OwnB (w.drewN n) B v l := h
theorem OwnB.alloc (h : OwnB w B v l) (o : Obj) : OwnB (w.alloc o) B v l := World.ownsRow.alloc h o
theorem OwnB.less (h : OwnB w B v l) (hB : B' ≤ B) : OwnB w B' v l := by
  obtain ⟨h1, h2⟩ := h
  refine ⟨h1, ?_⟩
  rcases h2 with h2 | ⟨g, cap, cur, hv, hg, r⟩
  · exact .inl h2
  · exact .inr ⟨g, cap, cur, hv, Nat.le_trans hB hg, r⟩
theorem OwnB.below {C : Nat} (h : OwnB w B v l) (hb : Below C w w') (hC : w.heap.size ≤ C) : OwnB w' B v l := by
  obtain ⟨h1, h2⟩ := h
  refine ⟨h1, ?_⟩
  rcases h2 with h2 | ⟨g, cap, cur, hv, hg, hh, r⟩
  · exact .inl h2
  · have hlt : g < w.heap.size := by
      rcases Nat.lt_or_ge g w.heap.size with h | h
      · exact h
      · rw [Array.getElem?_eq_none h] at hh; cases hh
    exact .inr ⟨g, cap, cur, hv, hg, by rw [hb.block g (by omega)]; exact hh, r⟩
theorem OwnB.made (w : World) (n : Nat) (hn : n ≤ maxLen) : OwnB (w.alloc (.cells (cellsU8 (List.replicate n 0)) 5)) w.heap.size (.slice (some ⟨w.heap.size, 0, none⟩) 0 n) [] :=
  ⟨by simp, .inr ⟨w.heap.size, n, cellsU8 (List.replicate n 0), rfl, Nat.le_refl _, heap_alloc_new w _, Nat.zero_le _, hn, by simp [cellsU8_size], by simp⟩⟩
theorem OwnB.lit (w : World) (l : List UInt8) (hn : l.length ≤ maxLen) : OwnB (w.alloc (.cells (cellsU8 l) 5)) w.heap.size (.slice (some ⟨w.heap.size, 0, none⟩) l.length l.length) l :=
  ⟨by simp, .inr ⟨w.heap.size, l.length, cellsU8 l, rfl, Nat.le_refl _, heap_alloc_new w _, Nat.le_refl _, hn, by simp [cellsU8_size], by
    simp only [cellsU8, Nat.mul_one]
    rw [List.take_of_length_le (by simp)]
    rfl⟩⟩
theorem OwnB.string (h : OwnB w B v l) : (convert 163 9 v).run Tryz.prog w = .ok (.string ⟨l.toArray⟩) w := by
  rcases h.2 with ⟨rfl, hn⟩ | ⟨g, cap, cur, rfl, hg, hh, r⟩
  · have hl : l = [] := List.eq_nil_of_length_eq_zero hn
    subst hl
    exact run_convert_bytes_nil (P := Tryz.prog) w 163 5 Tryz.underlying163 Tryz.underlying5 0 0 9 Tryz.underlying9
  · have hc := World.ownsRow.cells h (g := g) rfl
    have h1 := run_convert_bytes_arg (P := Tryz.prog) w 163 5 Tryz.underlying163 Tryz.underlying5 g 0 l.length cap (l.map fun b => (b.toNat : Int)) (by simp) (fun i hi => by
      have hx := hc i (valU8 l[i]) (by simp [hi])
      rw [Addr.add_lit] at hx
      rw [hx]
      simp [valU8, hi]) 9 Tryz.underlying9
    rw [h1]
    have he : ((fun n : Int => UInt8.ofNat n.toNat) ∘ fun b : UInt8 => (b.toNat : Int)) = id := by funext b; simp
    simp [strOfNums, he]
end
theorem wpList_append_bytes {w : World} {ops : Array Oper} {rest : List Oper} {o : Oper} {a : Act} {Q : Exit → Act → World → Prop} (hgd : o.guard = none) (s x : Operand)
    (ho : o.op = .call { callee := .builtin .append, args := #[s, x], argTypes := #[163, 163] })
    (B : Nat) (v : Value) (l : List UInt8) (hs : a.eval s = v) (hown : OwnB w B v l)
    (ad : Addr) (m c : Nat) (news : List UInt8) (hx : a.eval x = .slice (some ad) m c) (hl : news.length = m) (hnews : ∀ j u, news[j]? = some u → w.cell? (ad.add j) = some (valU8 u))
    (hbytes : l.length + m ≤ 140737488355328) (hbase : B ≤ w.heap.size)
    (h : ∀ v' w', OwnB w' B v' (l ++ news) → Below B w w' → wpList Tryz.prog ops Q rest (a.put o.dst v') w') : wpList Tryz.prog ops Q (o :: rest) a w := by
  obtain ⟨i, hi, hz, hs1, hb1⟩ := info_parts infoU8
  refine wpList_append_own w hgd s x 163 ho B 5 i (.int .u8 0) 1 1 Tryz.underlying163 hi hz hs1 hb1 rfl (by omega) v l.length (l.map valU8) hs hown ad m c (news.map valU8) hx (by simp [hl])
    (fun j u hu => by
      rw [List.getElem?_map] at hu
      obtain ⟨b, hb, rfl⟩ := Option.map_eq_some_iff.1 hu
      exact hnews j b hb) (valU8_one _) (by unfold maxLen; omega) (by omega) hbase ?_
  intro v' w' hown' hg _
  refine h v' w' ?_ ((Below.refl _ _).grown hg hbase (fun k hk => (World.ownsRow.lt hown k hk).1))
  unfold OwnB
  rw [List.length_append, List.map_append, hl]
  exact hown'
theorem wpList_append_bytes_fits {w : World} {ops : Array Oper} {rest : List Oper} {o : Oper} {a : Act} {Q : Exit → Act → World → Prop} (hgd : o.guard = none) (s x : Operand)
    (ho : o.op = .call { callee := .builtin .append, args := #[s, x], argTypes := #[163, 163] })
    (B g cap : Nat) (l : List UInt8) (hs : a.eval s = .slice (some ⟨g, 0, none⟩) l.length cap) (hown : OwnB w B (.slice (some ⟨g, 0, none⟩) l.length cap) l)
    (ad : Addr) (m c : Nat) (news : List UInt8) (hx : a.eval x = .slice (some ad) m c) (hl : news.length = m) (hnews : ∀ j u, news[j]? = some u → w.cell? (ad.add j) = some (valU8 u))
    (hcap : l.length + m ≤ cap) (hbase : B ≤ w.heap.size)
    (h : ∀ w', OwnB w' B (.slice (some ⟨g, 0, none⟩) (l ++ news).length cap) (l ++ news) → Below B w w' → wpList Tryz.prog ops Q rest (a.put o.dst (.slice (some ⟨g, 0, none⟩) (l ++ news).length cap)) w') : wpList Tryz.prog ops Q (o :: rest) a w := by
  obtain ⟨i, hi, hz, hs1, hb1⟩ := info_parts infoU8
  refine wpList_append_fits w hgd s x 163 ho B 5 i 1 Tryz.underlying163 hi hs1 g l.length cap (l.map valU8) hs hown ad m c (news.map valU8) hx (by simp [hl])
    (fun j u hu => by
      rw [List.getElem?_map] at hu
      obtain ⟨b, hb, rfl⟩ := Option.map_eq_some_iff.1 hu
      exact hnews j b hb) (valU8_one _) hcap ?_
  intro w' hown' hg
  have e : l.length + m = (l ++ news).length := by rw [List.length_append, hl]
  rw [e, ← List.map_append] at hown'
  rw [e]
  exact h w' hown' ((Below.refl _ _).grown hg hbase (fun k hk => by
    have := (World.ownsRow.lt hown k (by simpa [Value.ownBlock] using hk)).1
    exact this))
theorem newsU8 (w : World) (t : TypeId) (l : List UInt8) : ∀ j u, l[j]? = some u → (w.alloc (.cells (cellsU8 l) t)).cell? ((⟨w.heap.size, 0, none⟩ : Addr).add j) = some (valU8 u) := by
  intro j u hu
  rw [Addr.add_lit, Nat.zero_add, (Blk.new w t (cellsU8 l)).cell, cellsU8_get, hu]
  rfl
theorem wpList_append_both {w : World} {ops : Array Oper} {rest : List Oper} {o : Oper} {a : Act} {Q : Exit → Act → World → Prop} (hgd : o.guard = none) (s x : Operand)
    (ho : o.op = .call { callee := .builtin .append, args := #[s, x], argTypes := #[163, 163] })
    (B : Nat) (v : Value) (l : List UInt8) (hs : a.eval s = v) (hown : OwnB w B v l)
    (B' : Nat) (u : Value) (l' : List UInt8) (hx : a.eval x = u) (hsrc : OwnB w B' u l')
    (hbytes : l.length + l'.length ≤ 140737488355328) (hbase : B ≤ w.heap.size)
    (h : ∀ v' w', OwnB w' B v' (l ++ l') → Below B w w' → wpList Tryz.prog ops Q rest (a.put o.dst v') w') : wpList Tryz.prog ops Q (o :: rest) a w := by
  rcases hsrc.2 with ⟨rfl, hn⟩ | ⟨g, cap, cur, rfl, hg, hh, r⟩
  · have hl : l' = [] := List.eq_nil_of_length_eq_zero hn
    subst hl
    obtain ⟨i, hi, hz, hs1, hb1⟩ := info_parts infoU8
    refine wpList_plain hgd fun K hK' => ?_
    have hrun := run_append_owned_none (P := Tryz.prog) w B 163 o.type 5 i 1 Tryz.underlying163 hi v l.length (l.map valU8) hown
    unfold Oper.wp execOp
    simp only [ho, resolve, invoke, builtin, Sem.run_bind, Sem.run_pure, Result.andThen_ok, List.map_toArray, List.map_cons, List.map_nil, hs, hx, hrun]
    exact hK' _ _ (h v w (by simpa using hown) (Below.refl _ _))
  · refine wpList_append_bytes hgd s x ho B v l hs hown ⟨g, 0, none⟩ l'.length cap l' hx rfl ?_ hbytes hbase h
    intro j b hj
    exact World.ownsRow.cells hsrc (g := g) rfl j (valU8 b) (by simp [hj])
theorem step_append_bytes_fits {w : World} {ops : Array Oper} {o : Oper} {a : Act} {K : Act → World → Prop} {Q : Exit → Act → World → Prop} {E : Prop} (hgd : o.guard = none) (s x : Operand)
    (ho : o.op = .call { callee := .builtin .append, args := #[s, x], argTypes := #[163, 163] })
    (B g cap : Nat) (l : List UInt8) (hs : a.eval s = .slice (some ⟨g, 0, none⟩) l.length cap) (hown : OwnB w B (.slice (some ⟨g, 0, none⟩) l.length cap) l)
    (ad : Addr) (m c : Nat) (news : List UInt8) (hx : a.eval x = .slice (some ad) m c) (hl : news.length = m) (hnews : ∀ j u, news[j]? = some u → w.cell? (ad.add j) = some (valU8 u))
    (hcap : l.length + m ≤ cap) (hbase : B ≤ w.heap.size)
    (h : ∀ w', OwnB w' B (.slice (some ⟨g, 0, none⟩) (l ++ news).length cap) (l ++ news) → Below B w w' → K (a.put o.dst (.slice (some ⟨g, 0, none⟩) (l ++ news).length cap)) w') :
    if Region.wanted o (yielded ops a.tmps) = true then Oper.wp Tryz.prog o a w K Q else E := by
  have hw : Region.wanted o (yielded ops a.tmps) = true := by simp [Region.wanted, hgd]
  rw [if_pos hw]
  obtain ⟨i, hi, hz, hs1, hb1⟩ := info_parts infoU8
  obtain ⟨w', hrun, r1, r2⟩ := run_append_fits (P := Tryz.prog) w B 163 o.type 5 i 1 Tryz.underlying163 hi hs1 g l.length cap (l.map valU8) hown ad m c (news.map valU8) (by simp [hl])
    (fun j u hu => by
      rw [List.getElem?_map] at hu
      obtain ⟨b, hb, rfl⟩ := Option.map_eq_some_iff.1 hu
      exact hnews j b hb) (valU8_one _) hcap
  have e : l.length + m = (l ++ news).length := by rw [List.length_append, hl]
  rw [e, ← List.map_append] at r1
  rw [e] at hrun
  unfold Oper.wp execOp
  simp only [ho, resolve, invoke, builtin, Sem.run_bind, Sem.run_pure, Result.andThen_ok, List.map_toArray, List.map_cons, List.map_nil, hs, hx, hrun]
  exact h w' r1 ((Below.refl _ _).grown r2 hbase (fun k hk => (World.ownsRow.lt hown k (by simpa [Value.ownBlock] using hk)).1))
end Go.Proofs.YtmabpnmnppfgaaaGreatDoor
