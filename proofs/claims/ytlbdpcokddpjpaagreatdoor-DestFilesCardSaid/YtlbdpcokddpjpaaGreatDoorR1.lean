/- Parts, joined. -/
import Derived.Test.YtlbdpcokddpjpaaGreatDoorD5
import Derived.Lib.Bytealg
import Derived.Test.YtlbdpcokddpjpaaGreatDoorWays
import Derived.BigQuiet
import Derived.Deep.QuietTactic
import Derived.Test.YtlbdpcokddpjpaaGreatDoorD7
/- What the reference's Put and Add return: the plain functions' values. -/
namespace Go.Proofs.YtlbdpcokddpjpaaGreatDoor
set_option linter.unusedVariables false
open Go.RowKit
theorem set_low (n k : Nat) (l : List UInt8) (b : UInt8) (hk : k < n) : (List.replicate (n - k) (0 : UInt8) ++ l).set (n - 1 - k) b = List.replicate (n - (k + 1)) 0 ++ b :: l := by
  rw [show n - k = (n - (k + 1)) + 1 from by omega, show n - 1 - k = n - (k + 1) from by omega, List.replicate_succ', List.append_assoc]
  rw [List.set_append_right _ _ (by simp)]
  simp
set_option maxRecDepth 100000 in
set_option maxHeartbeats 400000 in
theorem refPut_any (v n : Int) (w : World) (ha : -9223372036854775808 ≤ v) (ha' : v ≤ 9223372036854775807) (hb : -9223372036854775808 ≤ n) (hb' : n ≤ 9223372036854775807) :
    Calls Tryz.prog 80 #[.int .i64 v, .int .i64 n] w fun e w' => e = .returned (.tuple #[.string ⟨(P.putS v n).toArray⟩, .int .i64 (P.putE v n)]) ∧ Below w.heap.size w w' := by
  by_cases h1 : 1 ≤ n ∧ n ≤ 7 ∧ 0 ≤ v
  · obtain ⟨h1, h2, h3⟩ := h1
    obtain ⟨v, rfl⟩ := Int.eq_ofNat_of_zero_le h3
    obtain ⟨n, rfl⟩ := Int.eq_ofNat_of_zero_le (by omega : 0 ≤ n)
    have hmk : ∀ W : World, (Instr.makeSlice 89 (.int .i64 n) (.int .i64 n)).run Tryz.prog W = .ok (.slice (some ⟨W.heap.size, 0, none⟩) n n) (W.alloc (.cells (cellsU8 (List.replicate n 0)) 5)) := fun W => make_bytes .i64 .i64 n n (by omega) (by omega) W
    have Hblk := Lib.hid (Blk.new w 5 (cellsU8 (List.replicate n 0)))
    have Hok := Lib.hid (show P.putOk v n = decide (v < 256 ^ n) from by
      unfold P.putOk
      apply decide_eq_decide.2
      constructor
      · rintro ⟨_, _, _, h⟩; exact_mod_cast h
      · intro h; exact ⟨h1, h2, h3, by exact_mod_cast h⟩)
    go_enter Tryz.func80, Tryz.ntmps80
    go_wp2_with fail
    go_loopw [0, 7] (fun x y wr => ∃ k m : Nat, k ≤ n ∧ y = .int .i64 ((n : Int) - 1 - (k : Int)) ∧ x = .int .i64 m ∧ m ≤ v ∧ m = v / 256 ^ k ∧ Blk wr w.heap.size 5 (cellsU8 (List.replicate (n - k) 0 ++ P.low k v)) ∧ Below w.heap.size w wr) (fun _ y _ => (intOf y + 1).toNat)
    case atStart => exact ⟨0, v, by omega, by simp, rfl, by omega, by simp, by simpa [P.low] using Hblk.out, (Below.refl _ _).alloc (Nat.le_refl _) _⟩
    case round =>
      obtain ⟨k, m, hk, rfl, rfl, hmv, hm, hblk, hbel⟩ := hrel
      have Hm := Lib.hid hm
      by_cases hlt : k < n
      · have hcell := hblk.cell (n - 1 - k)
        have hfr := hblk.frozen (n - 1 - k)
        obtain ⟨u, hu⟩ : ∃ u, (cellsU8 (List.replicate (n - k) 0 ++ P.low k v))[n - 1 - k]? = some u := ⟨_, Array.getElem?_eq_getElem (by simp [cellsU8_size, P.low_length]; omega)⟩
        rw [hu] at hcell
        clear hu
        have hs := hblk.set_ (n - 1 - k) (.int .u8 (((UInt8.ofNat (v / 256 ^ k)).toNat : Nat) : Int))
        rw [cellsU8_set, set_low n k _ _ hlt] at hs
        have hv : (((UInt8.ofNat (v / 256 ^ k)).toNat : Nat) : Int) = (m : Int) % 256 := by rw [← hm]; simp
        rw [hv] at hs
        have Hs := Lib.hid hs
        clear hv hs hblk hm
        go_wp2
        go_roundw
        case rel => exact ⟨k + 1, m / 256, by omega, by congr 1; omega, by go_num, by omega, by rw [Hm.out, Nat.div_div_eq_div_mul, Nat.pow_succ], Hs.out, hbel.setCell (Nat.le_refl _) _⟩
        case measure => simp [intOf]; omega
      · have hkn : k = n := by omega
        subst hkn
        have hst := bytes_string (c := k) hblk (n := k) (by simp [P.low_length])
        rw [Nat.sub_self, List.replicate_zero, List.nil_append, List.take_of_length_le (by simp [P.low_length])] at hst
        clear hm hblk
        by_cases hm0 : 0 < m
        · have hok : P.putOk v k = false := by
            rw [Hok.out]
            apply decide_eq_false
            intro h
            have := Hm.out
            rw [Nat.div_eq_of_lt h] at this
            omega
          have HS := Lib.hid (show P.putS v k = [] from by simp [P.putS, hok])
          have HE := Lib.hid (show P.putE v k = 1 from by simp [P.putE, hok])
          clear hok
          go_wp2
          go_ret2
          rw [HS.out, HE.out]
          exact ⟨rfl, hbel⟩
        · have hok : P.putOk v k = true := by
            rw [Hok.out]
            apply decide_eq_true
            have h0 := Hm.out
            rcases Nat.lt_or_ge v (256 ^ k) with h | h
            · exact h
            · have : 0 < v / 256 ^ k := Nat.div_pos h (Nat.pow_pos (by omega))
              omega
          have HS := Lib.hid (show P.putS v k = P.low k v from by simp [P.putS, hok])
          have HE := Lib.hid (show P.putE v k = 0 from by simp [P.putE, hok])
          clear hok
          go_wp2
          go_ret2
          rw [HS.out, HE.out]
          exact ⟨rfl, hbel⟩
  · have hf : P.putOk v n = false := by simp [P.putOk]; omega
    have hS : P.putS v n = [] := by simp [P.putS, hf]
    have hE : P.putE v n = 1 := by simp [P.putE, hf]
    rw [hS, hE]
    clear hf hS hE
    rcases (by omega : n < 1 ∨ (1 ≤ n ∧ 7 < n) ∨ (1 ≤ n ∧ n ≤ 7 ∧ v < 0)) with h | ⟨h, h'⟩ | ⟨h, h', h''⟩ <;>
    (go_enter Tryz.func80, Tryz.ntmps80
     go_wp2
     go_ret2
     exact ⟨rfl, Below.refl _ _⟩)
end Go.Proofs.YtlbdpcokddpjpaaGreatDoor

/- Plain laws of the order of bytes. No Go in sight but the library's word for the order. -/
namespace Go.Proofs.YtlbdpcokddpjpaaGreatDoor.P
set_option linter.unusedVariables false
abbrev cmp := Lib.compareBytes
theorem cmp_vals (a : List UInt8) : ∀ b, cmp a b = -1 ∨ cmp a b = 0 ∨ cmp a b = 1 := by
  induction a with
  | nil => intro b; cases b <;> simp [Lib.compareBytes]
  | cons x a ih =>
    intro b
    cases b with
    | nil => simp [Lib.compareBytes]
    | cons y b =>
      simp only [cmp, Lib.compareBytes]
      split
      · simp
      · split
        · simp
        · exact ih b
theorem cmp_swap (a : List UInt8) : ∀ b, cmp b a = - cmp a b := by
  induction a with
  | nil => intro b; cases b <;> simp [Lib.compareBytes]
  | cons x a ih =>
    intro b
    cases b with
    | nil => simp [Lib.compareBytes]
    | cons y b =>
      simp only [cmp, Lib.compareBytes]
      by_cases h1 : x < y
      · have h2 : ¬ y < x := by rw [UInt8.lt_iff_toNat_lt] at *; omega
        simp [h1, h2]
      · by_cases h2 : y < x
        · simp [h1, h2]
        · simp [h1, h2]; exact ih b
theorem cmp_zero (a : List UInt8) : ∀ b, cmp a b = 0 ↔ a = b := by
  induction a with
  | nil => intro b; cases b <;> simp [Lib.compareBytes]
  | cons x a ih =>
    intro b
    cases b with
    | nil => simp [Lib.compareBytes]
    | cons y b =>
      simp only [cmp, Lib.compareBytes]
      by_cases h1 : x < y
      · have h3 : x ≠ y := by rintro rfl; exact absurd h1 (by simp)
        simp [h1, h3]
      · by_cases h2 : y < x
        · have h3 : x ≠ y := by rintro rfl; exact absurd h2 (by simp)
          simp [h1, h2, h3]
        · have h3 : x = y := by
            rw [UInt8.lt_iff_toNat_lt] at *
            exact UInt8.toNat_inj.1 (by omega)
          subst h3
          simp [h1]
          exact ih b
theorem cmp_le_trans (a : List UInt8) : ∀ b c, cmp a b ≤ 0 → cmp b c ≤ 0 → cmp a c ≤ 0 ∧ (cmp a b < 0 ∧ cmp b c < 0 → cmp a c < 0) := by
  induction a with
  | nil => intro b c; cases b <;> cases c <;> simp [Lib.compareBytes]
  | cons x a ih =>
    intro b c
    cases b with
    | nil => simp [Lib.compareBytes]
    | cons y b =>
      cases c with
      | nil => simp [Lib.compareBytes]
      | cons z c =>
        simp only [cmp, Lib.compareBytes, UInt8.lt_iff_toNat_lt]
        have := ih b c
        by_cases h1 : x.toNat < y.toNat <;> by_cases h2 : y.toNat < x.toNat <;> by_cases h3 : y.toNat < z.toNat <;> by_cases h4 : z.toNat < y.toNat <;> by_cases h5 : x.toNat < z.toNat <;> by_cases h6 : z.toNat < x.toNat <;>
          simp only [h1, h2, h3, h4, h5, h6, if_true, if_false] <;> first | omega | (intro p q; simp at p q; done) | exact this | (intro p q; exact ⟨by omega, by omega⟩)
theorem cmp_prefix (c a b : List UInt8) : cmp (c ++ a) (c ++ b) = cmp a b := by
  induction c with
  | nil => rfl
  | cons x c ih => simp only [cmp, List.cons_append, Lib.compareBytes] at *; simp [ih]
theorem low_mod (n : Nat) : ∀ (k v : Nat), n ≤ k → low n (v % 256 ^ k) = low n v := by
  induction n with
  | zero => intro k v _; rfl
  | succ n ih =>
    intro k v h
    simp only [low]
    rw [ih k v (by omega)]
    congr 1
    have e : (v % 256 ^ k / 256 ^ n) % 256 = (v / 256 ^ n) % 256 := by
      obtain ⟨d, rfl⟩ : ∃ d, k = n + 1 + d := ⟨k - (n + 1), by omega⟩
      rw [Nat.pow_add, Nat.pow_succ, Nat.mul_assoc, Nat.mod_mul_right_div_self, Nat.mod_mul_right_mod]
    apply UInt8.toNat_inj.1
    simp [e]
theorem cmp_low (n : Nat) : ∀ a b : Nat, a < 256 ^ n → b < 256 ^ n → ((cmp (low n a) (low n b) < 0 ↔ a < b) ∧ (cmp (low n a) (low n b) = 0 ↔ a = b)) := by
  induction n with
  | zero => intro a b ha hb; simp at ha hb; subst ha; subst hb; simp [low, Lib.compareBytes]
  | succ n ih =>
    intro a b ha hb
    have hp : 0 < 256 ^ n := Nat.pow_pos (by omega)
    have ea : a / 256 ^ n < 256 := by rw [Nat.div_lt_iff_lt_mul hp, Nat.mul_comm, ← Nat.pow_succ]; exact ha
    have eb : b / 256 ^ n < 256 := by rw [Nat.div_lt_iff_lt_mul hp, Nat.mul_comm, ← Nat.pow_succ]; exact hb
    have da := Nat.div_add_mod a (256 ^ n)
    have db := Nat.div_add_mod b (256 ^ n)
    have ma := Nat.mod_lt a hp
    have mb := Nat.mod_lt b hp
    have h := ih (a % 256 ^ n) (b % 256 ^ n) ma mb
    rw [low_mod n n a (Nat.le_refl _), low_mod n n b (Nat.le_refl _)] at h
    simp only [low, cmp, Lib.compareBytes]
    have ta : (UInt8.ofNat (a / 256 ^ n)).toNat = a / 256 ^ n := by simp; omega
    have tb : (UInt8.ofNat (b / 256 ^ n)).toNat = b / 256 ^ n := by simp; omega
    simp only [UInt8.lt_iff_toNat_lt, ta, tb]
    generalize a / 256 ^ n = qa at *
    generalize b / 256 ^ n = qb at *
    generalize 256 ^ n = p at *
    by_cases h1 : qa < qb
    · have : p * qa + p ≤ p * qb := by rw [← Nat.mul_succ]; exact Nat.mul_le_mul_left _ h1
      simp only [h1, if_true]
      constructor <;> constructor <;> intro _ <;> omega
    · by_cases h2 : qb < qa
      · have : p * qb + p ≤ p * qa := by rw [← Nat.mul_succ]; exact Nat.mul_le_mul_left _ h2
        simp only [h1, h2, if_true, if_false]
        constructor <;> constructor <;> intro _ <;> omega
      · have h3 : qa = qb := by omega
        subst h3
        simp only [h1, if_false]
        refine ⟨h.1.trans ?_, h.2.trans ?_⟩ <;> constructor <;> intro _ <;> omega
end Go.Proofs.YtlbdpcokddpjpaaGreatDoor.P

/- What the reference's Compare returns: the order of bytes; nothing that was there is written. -/
namespace Go.Proofs.YtlbdpcokddpjpaaGreatDoor
set_option linter.unusedVariables false
open Go.RowKit Go.BigFrame
theorem drop_at (s : ByteArray) (k : Nat) (h : k < s.size) : s.data.toList.drop k = s[k] :: s.data.toList.drop (k + 1) := by
  rw [List.drop_eq_getElem_cons (by simpa using h)]; rfl
theorem drop_end (s : ByteArray) (k : Nat) (h : s.size ≤ k) : s.data.toList.drop k = [] := List.drop_eq_nil_of_le (by simpa using h)
set_option maxRecDepth 100000 in
set_option maxHeartbeats 1000000 in
theorem refCompare_any (a b : ByteArray) (w : World) (ha : a.size ≤ maxLen) (hb : b.size ≤ maxLen) :
    Calls Tryz.prog 91 #[.string a, .string b] w fun e w' => e = .returned (.int .i64 (P.cmp a.data.toList b.data.toList)) ∧ Below w.heap.size w w' := by
  unfold maxLen at ha hb
  go_enter Tryz.func91, Tryz.ntmps91
  go_wp2
  go_loopw [5] (fun x wr => ∃ k : Nat, k ≤ a.size ∧ k ≤ b.size ∧ x = .int .i64 k ∧ P.cmp (a.data.toList.drop k) (b.data.toList.drop k) = P.cmp a.data.toList b.data.toList ∧ Below w.heap.size w wr) (fun x _ => a.size - (intOf x).toNat)
  case atStart => exact ⟨0, by omega, by omega, rfl, rfl, Below.refl _ _⟩
  case round =>
    obtain ⟨k, hka, hkb, rfl, hc, hbel⟩ := hrel
    by_cases hlt : k < a.size ∧ k < b.size
    · obtain ⟨h1, h2⟩ := hlt
      rw [drop_at a k h1, drop_at b k h2] at hc
      simp only [P.cmp, Lib.compareBytes, UInt8.lt_iff_toNat_lt] at hc
      have hx := a[k].toNat_lt
      have hy := b[k].toNat_lt
      have Hc := Lib.hid hc
      clear hc
      have d1 : decide ((k : Int) < (a.size : Int)) = true := decide_eq_true (by omega)
      have d2 : decide ((k : Int) < (b.size : Int)) = true := decide_eq_true (by omega)
      go_wp2_with fail
      refine wp_region_ext (by kernel_rfl) (by kernel_rfl) ?_
      repeat (first | go_big_quiet_step (fail) | quiet_step (fail))
      refine wpQuiet_nil ?_
      intro w2 hb2
      have hbel2 := hbel.trans (hb2.mono hbel.size)
      clear hb2 hbel
      by_cases h3 : a[k].toNat < b[k].toNat
      · have hfin : P.cmp a.data.toList b.data.toList = -1 := by have := Hc.out; rw [if_pos h3] at this; exact this.symm
        have HF := Lib.hid hfin
        have hd : decide (a[k].toNat < b[k].toNat) = true := decide_eq_true h3
        clear hfin
        go_wp2
        go_ret
        rw [HF.out]
        exact ⟨rfl, hbel2⟩
      · have hd0 : decide (a[k].toNat < b[k].toNat) = false := decide_eq_false h3
        go_wp2_with fail
        refine wp_region_ext (by kernel_rfl) (by kernel_rfl) ?_
        repeat (first | go_big_quiet_step (fail) | quiet_step (fail))
        refine wpQuiet_nil ?_
        intro w3 hb3
        have hbel3 := hbel2.trans (hb3.mono hbel2.size)
        clear hb3 hbel2
        by_cases h4 : b[k].toNat < a[k].toNat
        · have hfin : P.cmp a.data.toList b.data.toList = 1 := by have := Hc.out; rw [if_neg h3, if_pos h4] at this; exact this.symm
          have HF := Lib.hid hfin
          have hd : decide (b[k].toNat < a[k].toNat) = true := decide_eq_true h4
          clear hfin
          go_wp2
          go_ret
          rw [HF.out]
          exact ⟨rfl, hbel3⟩
        · have hd : decide (b[k].toNat < a[k].toNat) = false := decide_eq_false h4
          have Hn := Lib.hid (show P.cmp (a.data.toList.drop (k + 1)) (b.data.toList.drop (k + 1)) = P.cmp a.data.toList b.data.toList from by have := Hc.out; rw [if_neg h3, if_neg h4] at this; exact this)
          go_wp2
          go_roundw
          case rel => exact ⟨k + 1, by omega, by omega, by go_num, Hn.out, hbel3⟩
          case measure => simp [intOf]; omega
    · rcases (by omega : (k = a.size ∧ a.size < b.size) ∨ (k = b.size ∧ b.size < a.size) ∨ (k = a.size ∧ k = b.size)) with ⟨h1, h2⟩ | ⟨h1, h2⟩ | ⟨h1, h2⟩
      · rw [drop_end a k (by omega), drop_at b k (by omega)] at hc
        have hfin : P.cmp a.data.toList b.data.toList = -1 := hc.symm
        have HF := Lib.hid hfin
        have h3 : a.size ≤ k := by omega
        clear hfin hc h1 hlt
        have d1 : decide ((k : Int) < (a.size : Int)) = false := decide_eq_false (by omega)
        go_wp2
        go_ret
        rw [HF.out]
        exact ⟨rfl, hbel⟩
      · rw [drop_at a k (by omega), drop_end b k (by omega)] at hc
        have hfin : P.cmp a.data.toList b.data.toList = 1 := hc.symm
        have HF := Lib.hid hfin
        have h3 : b.size ≤ k := by omega
        have h4 : k < a.size := by omega
        clear hfin hc h1 hlt
        have d1 : decide ((k : Int) < (a.size : Int)) = true := decide_eq_true (by omega)
        have d2 : decide ((k : Int) < (b.size : Int)) = false := decide_eq_false (by omega)
        go_wp2
        go_ret
        rw [HF.out]
        exact ⟨rfl, hbel⟩
      · rw [drop_end a k (by omega), drop_end b k (by omega)] at hc
        have hfin : P.cmp a.data.toList b.data.toList = 0 := hc.symm
        have HF := Lib.hid hfin
        have h3 : a.size ≤ k := by omega
        have h4 : b.size ≤ k := by omega
        clear hfin hc h1 h2 hlt
        have d1 : decide ((k : Int) < (a.size : Int)) = false := decide_eq_false (by omega)
        go_wp2
        go_ret
        rw [HF.out]
        exact ⟨rfl, hbel⟩
end Go.Proofs.YtlbdpcokddpjpaaGreatDoor

/- The reference's disk: a list of files; what New, Room, IsName, at, guard, burn return. -/
namespace Go.Proofs.YtlbdpcokddpjpaaGreatDoor
set_option linter.unusedVariables false
open Go Go.RowKit Go.BigFrame
namespace Rf
abbrev Fl := ByteArray × Dk.File
structure Disk where
  files : List Fl
  left : Int
def cells (p : Fl) : List Value := [.string p.1, .string p.2.data, .int .i64 (p.2.synced : Int)]
theorem cells_len (p : Fl) : (cells p).length = 3 := rfl
def new : Disk := ⟨[], -1⟩
def idx (l : List Fl) (x : ByteArray) : Int := match l.findIdx? fun p => decide (p.1 = x) with | none => -1 | some k => (k : Int)
theorem idx_none {l : List Fl} {x : ByteArray} (h : ∀ j p, j < l.length → l[j]? = some p → p.1 ≠ x) : idx l x = -1 := by
  have : l.findIdx? (fun p => decide (p.1 = x)) = none := by
    rw [List.findIdx?_eq_none_iff]
    intro p hp
    obtain ⟨j, hj⟩ := List.getElem?_of_mem hp
    simpa using h j p (List.getElem?_eq_some_iff.1 hj).1 hj
  unfold idx
  rw [this]
theorem idx_some {l : List Fl} {x : ByteArray} {k : Nat} {p : Fl} (hk : l[k]? = some p) (he : p.1 = x) (h : ∀ j p, j < k → l[j]? = some p → p.1 ≠ x) : idx l x = (k : Int) := by
  obtain ⟨hlt, e⟩ := List.getElem?_eq_some_iff.1 hk
  have : l.findIdx? (fun p => decide (p.1 = x)) = some k := by
    rw [List.findIdx?_eq_some_iff_getElem]
    exact ⟨hlt, by rw [e]; simpa using he, fun j hj => by simpa using h j _ hj (List.getElem?_eq_getElem (by omega))⟩
  unfold idx
  rw [this]
theorem idx_cases (l : List Fl) (x : ByteArray) : (idx l x = -1 ∧ Dk.get l x = none) ∨ ∃ (k : Nat) (f : Dk.File), idx l x = (k : Int) ∧ l[k]? = some (x, f) ∧ Dk.get l x = some f := by
  cases h : l.findIdx? fun p => decide (p.1 = x) with
  | none =>
    left
    refine ⟨by unfold idx; rw [h], ?_⟩
    rw [Dk.get_none]
    intro p hp
    have := List.findIdx?_eq_none_iff.1 h p hp
    simpa using this
  | some k =>
    right
    obtain ⟨hk, hp, hno⟩ := List.findIdx?_eq_some_iff_getElem.1 h
    have hp' : l[k].1 = x := by simpa using hp
    refine ⟨k, l[k].2, by unfold idx; rw [h], by rw [List.getElem?_eq_getElem hk, ← hp'], ?_⟩
    unfold Dk.get
    have : l.find? (fun p => decide (p.1 = x)) = some l[k] := by
      rw [List.find?_eq_some_iff_getElem]
      exact ⟨by simpa using hp', k, hk, rfl, fun j hj => by simpa using hno j hj⟩
    rw [this]
    rfl
end Rf
/-- Blocks of some types, from B on, may have turned; nothing else. -/
structure Tu (B : Nat) (ts : List TypeId) (w w' : World) : Prop where
  os : w'.os = w.os
  tape : w'.tape = w.tape
  output : w'.output = w.output
  size : w.heap.size ≤ w'.heap.size
  block : ∀ b, b < w.heap.size → (b < B ∨ ∀ cs t fr, w.heap[b]? = some (.cells cs t fr) → t ∉ ts) → w'.heap[b]? = w.heap[b]?
section
variable {B : Nat} {ts : List TypeId} {w w' w'' : World}
theorem Tu.refl (B : Nat) (ts : List TypeId) (w : World) : Tu B ts w w := ⟨rfl, rfl, rfl, Nat.le_refl _, fun _ _ _ => rfl⟩
theorem Tu.trans (h : Tu B ts w w') (k : Tu B ts w' w'') : Tu B ts w w'' :=
  ⟨k.os.trans h.os, k.tape.trans h.tape, k.output.trans h.output, Nat.le_trans h.size k.size, fun b hb hc => by
    have h1 := h.block b hb hc
    rw [k.block b (Nat.lt_of_lt_of_le hb h.size) (hc.imp id fun hn cs t fr he => hn cs t fr (h1 ▸ he)), h1]⟩
theorem Tu.of_below (h : Below w.heap.size w w') : Tu B ts w w' := ⟨h.os, h.tape, h.output, h.size, fun b hb _ => h.block b hb⟩
theorem Tu.of_stays (h : Stays w w') : Tu B ts w w' := Tu.of_below h
theorem Tu.below (h : Tu B ts w w') (k : Below w'.heap.size w' w'') : Tu B ts w w'' := h.trans (Tu.of_below k)
theorem Tu.stays (h : Tu B ts w w') (k : Stays w' w'') : Tu B ts w w'' := h.trans (Tu.of_below k)
/-- One block of such a type turns. -/
theorem Tu.one {b : Nat} {cs : Array Value} {t : TypeId} {fr : Nat × Nat} (hk : w.heap[b]? = some (.cells cs t fr)) (ht : t ∈ ts) (hB : B ≤ b) (hg : w.grownBy w' (some b)) : Tu B ts w w' :=
  ⟨hg.os, hg.tape, hg.output, hg.size, fun c hc hn => hg.block c hc (fun e => by
    injection e with e
    subst e
    rcases hn with hn | hn
    · omega
    · exact hn _ _ _ hk ht)⟩
theorem Tu.to_below (h : Tu B ts w w') (hB : B ≤ w.heap.size) : Below B w w' := ⟨h.os, h.tape, h.output, h.size, fun b hb => h.block b (by omega) (.inl hb)⟩
end
def OwnF (w : World) (B : Nat) (v : Value) (l : List Rf.Fl) : Prop := w.ownsRow B 82 3 v l.length (l.flatMap Rf.cells)
abbrev refT : List TypeId := [63, 82]
structure RefAt (w : World) (B g : Nat) (r : Rf.Disk) : Prop where
  ge : B ≤ g
  blk : ∃ v off cut flip acts, Blk w g 63 #[v, .bool off, .int .i64 r.left, .int .i64 (-1), .int .i64 cut, .int .i64 flip, .int .i64 acts] ∧ off = false ∧ OwnF w B v r.files
section
variable {w w' : World} {B g : Nat} {r : Rf.Disk}
theorem OwnF.block {v : Value} {l : List Rf.Fl} (h : OwnF w B v l) : (v = .slice none 0 0 ∧ l = []) ∨ ∃ b cap cur, v = .slice (some ⟨b, 0, none⟩) l.length cap ∧ B ≤ b ∧ w.heap[b]? = some (.cells cur 82 (0, 0)) ∧ l.length ≤ cap ∧ cur.size = cap * 3 ∧ cur.toList.take (l.length * 3) = l.flatMap Rf.cells := by
  rcases h.2 with ⟨h1, h2⟩ | ⟨b, cap, cur, hv, hb, hh, h3, h4, h5, h6⟩
  · exact .inl ⟨h1, List.eq_nil_of_length_eq_zero h2⟩
  · exact .inr ⟨b, cap, cur, hv, hb, hh, h3, h5, h6⟩
theorem OwnF.tuNot {v : Value} {l : List Rf.Fl} (h : OwnF w B v l) (hk : ∀ b cur, v.ownBlock = some b → w.heap[b]? = some (.cells cur 82 (0, 0)) → w'.heap[b]? = w.heap[b]?) : OwnF w' B v l := by
  obtain ⟨h1, h2⟩ := h
  refine ⟨h1, ?_⟩
  rcases h2 with h2 | ⟨b, cap, cur, hv, hb, hh, r⟩
  · exact .inl h2
  · exact .inr ⟨b, cap, cur, hv, hb, by rw [hk b cur (by rw [hv]; rfl) hh]; exact hh, r⟩
theorem OwnF.below {v : Value} {l : List Rf.Fl} (h : OwnF w B v l) (hb : Below w.heap.size w w') : OwnF w' B v l :=
  h.tuNot fun b cur _ hh => hb.block b (Array.getElem?_eq_some_iff.1 hh).1
theorem RefAt.below (h : RefAt w B g r) (hb : Below w.heap.size w w') : RefAt w' B g r := by
  obtain ⟨h0, v, off, cut, flip, acts, hk, ho, hl⟩ := h
  exact ⟨h0, v, off, cut, flip, acts, hk.below hb hk.lt, ho, hl.below hb⟩
theorem RefAt.stays (h : RefAt w B g r) (hs : Stays w w') : RefAt w' B g r := h.below ((Below.refl _ w).trans hs)
theorem RefAt.lt (h : RefAt w B g r) : g < w.heap.size := by
  obtain ⟨_, v, off, cut, flip, acts, hk, _⟩ := h
  exact hk.lt
/-- What the program's disk does leaves the reference's. -/
theorem RefAt.chg {g' m' : Nat} {d : Dk.Disk} (h : RefAt w B g r) (hd : DiskAt w g' m' d) (hc : Chg g' m' w w') : RefAt w' B g r := by
  obtain ⟨h0, v, off, cut, flip, acts, hk, ho, hl⟩ := h
  obtain ⟨⟨fp, ac, hb, _⟩, hm⟩ := hd
  refine ⟨h0, v, off, cut, flip, acts, hk.chg hc (blk_ne hk hb (by decide)) (blk_ne_map hk hm), ho, hl.tuNot fun b cur _ hh => hc.block b (Array.getElem?_eq_some_iff.1 hh).1 (blk_ne (show Blk w b _ cur from hh) hb (by decide)) (blk_ne_map (show Blk w b _ cur from hh) hm)⟩
/-- What the reference's disk does leaves the program's. -/
theorem DiskAt.tu {g m : Nat} {d : Dk.Disk} (h : DiskAt w g m d) (hc : Tu B refT w w') : DiskAt w' g m d := by
  obtain ⟨⟨fp, ac, hb, hf⟩, hm⟩ := h
  have key : ∀ (k : Nat) (t : TypeId) (cs : Array Value), Blk w k t cs → t ∉ refT → w'.heap[k]? = w.heap[k]? := fun k t cs hk ht => hc.block k hk.lt (.inr fun cs' t' fr he => by
    unfold Blk at hk
    rw [hk] at he
    cases he
    exact ht)
  refine ⟨⟨fp, ac, (key g _ _ hb (by decide)).trans hb, hf.keep fun k hk => ?_⟩, hm.keep (hc.block m hm.lt (.inr fun cs t fr he => ?_))⟩
  · cases hu : d.fuse with
    | none => rw [hu] at hf; rw [hf] at hk; cases hk
    | some u =>
      rw [hu] at hf
      obtain ⟨k', e, hb'⟩ := hf
      rw [hk] at e
      cases e
      exact key k _ _ hb' (by decide)
  · obtain ⟨es, clock, hb', _⟩ := hm
    rw [hb'] at he
    cases he
/-- A store into the reference's disk's block. -/
theorem RefAt.set_ (h : RefAt w B g r) (i : Nat) (u : Value) {l : Int} (hi : (i = 2 ∧ u = .int .i64 l) ∨ (i = 6 ∧ l = r.left ∧ ∃ n, u = .int .i64 n)) : RefAt (w.setCell ⟨g, i, none⟩ u) B g { r with left := l } ∧ Tu B refT w (w.setCell ⟨g, i, none⟩ u) := by
  obtain ⟨h0, v, off, cut, flip, acts, hk, ho, hl⟩ := h
  have hg := grown_set w g i u
  refine ⟨⟨h0, ?_⟩, Tu.one hk (by decide) h0 hg⟩
  have hl' : OwnF (w.setCell ⟨g, i, none⟩ u) B v r.files := hl.tuNot fun b cur _ hh => hg.block b (Array.getElem?_eq_some_iff.1 hh).1 (fun e => by
    injection e with e
    exact blk_ne (show Blk w b _ cur from hh) hk (by decide) e)
  rcases hi with ⟨rfl, rfl⟩ | ⟨rfl, rfl, n, rfl⟩
  · exact ⟨v, off, cut, flip, acts, hk.set_ 2 _, ho, hl'⟩
  · exact ⟨v, off, cut, flip, n, hk.set_ 6 _, ho, hl'⟩
set_option maxRecDepth 100000 in
theorem refNew_any (w : World) (B : Nat) (hB : B ≤ w.heap.size) : Calls Tryz.prog 7 #[] w fun e w' => ∃ g, e = .returned (.pointer (some ⟨g, 0, none⟩)) ∧ RefAt w' B g Rf.new ∧ Below w.heap.size w w' := by
  go_enter Tryz.func7, Tryz.ntmps7
  go_wp2
  go_ret
  refine ⟨w.heap.size, rfl, ⟨hB, .slice none 0 0, false, 0, 0, 0, Blk.new w _ _, rfl, ⟨rfl, .inl ⟨rfl, rfl⟩⟩⟩, (Below.refl _ _).alloc (Nat.le_refl _) _⟩
set_option maxRecDepth 100000 in
theorem refRoom_any (w : World) (h : RefAt w B g r) (n : Int) : Calls Tryz.prog 9 #[.pointer (some ⟨g, 0, none⟩), .int .i64 n] w fun e w' => e = .returned (.tuple #[]) ∧ RefAt w' B g { r with left := max n (-1) } ∧ Tu B refT w w' := by
  have H1 := h.set_ 2 (.int .i64 n) (l := n) (.inl ⟨rfl, rfl⟩)
  have HR := Lib.hid h
  obtain ⟨h0, v, off, cut, flip, acts, hk, ho, hl⟩ := h
  have c := fun i => hk.cell i
  have fz := fun i => hk.frozen i
  have hk1 := hk.set_ 2 (.int .i64 n)
  have c1 := fun i => hk1.cell i
  have fz1 := fun i => hk1.frozen i
  have H1' := Lib.hid H1
  clear hk hk1 hl H1
  rcases Int.lt_or_le n 0 with hn | hn
  · have H2 := Lib.hid (H1'.out.1.set_ 2 (.int .i64 (-1)) (l := -1) (.inl ⟨rfl, rfl⟩))
    go_enter Tryz.func9, Tryz.ntmps9
    go_wp2_with fail
    refine bodyPost_end (results_none rfl _ _ _) rfl ⟨rfl, ?_, ?_⟩
    · rw [show max n (-1) = -1 by omega]
      exact H2.out.1
    · exact H1'.out.2.trans H2.out.2
  · go_enter Tryz.func9, Tryz.ntmps9
    go_wp2_with fail
    refine bodyPost_end (results_none rfl _ _ _) rfl ⟨rfl, ?_, ?_⟩
    · rw [show max n (-1) = n by omega]
      exact H1'.out.1
    · exact H1'.out.2
end
end Go.Proofs.YtlbdpcokddpjpaaGreatDoor

/- The reference's disk: what IsName, at, guard, burn, Read return. -/
namespace Go.Proofs.YtlbdpcokddpjpaaGreatDoor
set_option linter.unusedVariables false
open Go Go.RowKit Go.BigFrame
theorem idxS_at (s : ByteArray) (k : Nat) (hk : k < s.size) (W : World) : (Instr.index 9 (.string s) (.int .i64 (k : Int))).run Tryz.prog W = .ok (.int .u8 (s[k].toNat : Int)) W := by
  simp [go_sem, hk]
theorem sign_of (b : UInt8) (n : Nat) (hn : b.toNat = n) : Dk.sign b = (decide (97 ≤ n ∧ n ≤ 122) || decide (48 ≤ n ∧ n ≤ 57) || decide (n = 46) || decide (n = 45) || decide (n = 95) || decide (n = 47)) := by
  subst hn
  have e : ∀ k : UInt8, (b == k) = decide (b.toNat = k.toNat) := fun k => by
    rw [Bool.eq_iff_iff, beq_iff_eq, decide_eq_true_eq]
    exact ⟨fun h => by rw [h], fun h => UInt8.toNat_inj.1 h⟩
  unfold Dk.sign
  rw [e, e, e, e]
  rfl
set_option maxRecDepth 100000 in
set_option maxHeartbeats 4000000 in
theorem refIsName_any (s : ByteArray) (w : World) (hs : s.size ≤ 9223372036854775807) : Calls Tryz.prog 84 #[.string s] w fun e w' => e = .returned (.bool (Dk.isName s)) ∧ w' = w := by
  have HN := Lib.hid (show Dk.isName s = (decide (0 < s.size) && decide (s.size ≤ 64) && s.data.toList.all Dk.sign) from rfl)
  generalize Dk.isName s = r at *
  by_cases hbad : s.size < 1 ∨ 64 < s.size
  · have hr := Lib.hid (show r = false by rw [HN.out]; rcases hbad with h | h <;> simp <;> omega)
    rcases hbad with h | h
    · go_enter Tryz.func84, Tryz.ntmps84
      go_wp2_with fail
      go_ret
      rw [hr.out]
      exact ⟨rfl, rfl⟩
    · have h' : ¬ s.size < 1 := by omega
      go_enter Tryz.func84, Tryz.ntmps84
      go_wp2_with fail
      go_ret
      rw [hr.out]
      exact ⟨rfl, rfl⟩
  · have h1 : 1 ≤ s.size := by omega
    have h2 : s.size ≤ 64 := by omega
    have hr := Lib.hid (show r = s.data.toList.all Dk.sign by rw [HN.out]; simp [h2]; intro _; omega)
    clear hbad
    have hlen : s.data.toList.length = s.size := by simp
    have HL := Lib.hid hlen
    clear hlen
    go_enter Tryz.func84, Tryz.ntmps84
    go_wp2_with fail
    go_loopw [3] (fun x wr => ∃ k : Nat, k ≤ s.size ∧ x = .int .i64 k ∧ wr = w ∧ ∀ (j : Nat) b, j < k → s.data.toList[j]? = some b → Dk.sign b = true) (fun x _ => s.size - (intOf x).toNat)
    case atStart => exact ⟨0, by omega, rfl, rfl, fun j b hj => by omega⟩
    case round =>
      obtain ⟨k, hk, rfl, rfl, hno⟩ := hrel
      have Hno := Lib.hid hno
      clear hno
      by_cases hlt : k < s.size
      · have hi := fun W => idxS_at s k hlt W
        have hb0 : s.data.toList[k]? = some s[k] := by
          rw [List.getElem?_eq_getElem (by rw [HL.out]; exact hlt)]
          rfl
        have HB0 := Lib.hid hb0
        clear hb0
        generalize s[k] = b at *
        have HSG := Lib.hid (sign_of b)
        have hb := b.toNat_lt
        generalize b.toNat = n at *
        have hsg := HSG.out n rfl
        have HSG2 := Lib.hid hsg
        clear hsg HSG
        obtain ⟨sg, hsb⟩ : ∃ sg, Dk.sign b = sg := ⟨_, rfl⟩
        rw [hsb] at HSG2
        have HSB := Lib.hid hsb
        clear hsb
        go_upto_region 7 with fail
        go_cut [52] (fun v wx => wx = wr ∧ v = .bool (!sg))
        case first =>
          rcases (by omega : n < 45 ∨ n = 45 ∨ n = 46 ∨ n = 47 ∨ (48 ≤ n ∧ n ≤ 57) ∨ (58 ≤ n ∧ n ≤ 94) ∨ n = 95 ∨ n = 96 ∨ (97 ≤ n ∧ n ≤ 122) ∨ 123 ≤ n) with h | h | h | h | h | h | h | h | h | h
          all_goals
            first
            | (obtain ⟨hA, hB⟩ := h
               have HE := Lib.hid (show sg = true from by rw [HSG2.out]; simp; omega)
               clear HSG2
               go_wp2_with fail
               go_meet
               exact ⟨rfl, by rw [HE.out]; first | rfl | (simp; omega)⟩)
            | (obtain ⟨hA, hB⟩ := h
               have HE := Lib.hid (show sg = false from by rw [HSG2.out]; simp; omega)
               clear HSG2
               go_wp2_with fail
               go_meet
               exact ⟨rfl, by rw [HE.out]; first | rfl | (simp; omega)⟩)
            | (subst h
               have HE := Lib.hid (show sg = true from by rw [HSG2.out]; rfl)
               clear HSG2
               go_wp2_with fail
               go_meet
               exact ⟨rfl, by rw [HE.out]; first | rfl | (simp; omega)⟩)
            | (subst h
               have HE := Lib.hid (show sg = false from by rw [HSG2.out]; rfl)
               clear HSG2
               go_wp2_with fail
               go_meet
               exact ⟨rfl, by rw [HE.out]; first | rfl | (simp; omega)⟩)
            | (have HE := Lib.hid (show sg = false from by rw [HSG2.out]; simp; omega)
               clear HSG2
               go_wp2_with fail
               go_meet
               exact ⟨rfl, by rw [HE.out]; first | rfl | (simp; omega)⟩)
        case rest =>
          obtain ⟨rfl, rfl⟩ := hcut
          cases sg with
          | true =>
            have HNO2 := Lib.hid (show ∀ (j : Nat) b', j < k + 1 → s.data.toList[j]? = some b' → Dk.sign b' = true from fun j b' hj hb' => by
              rcases Nat.lt_or_ge j k with h | h
              · exact Hno.out j b' h hb'
              · obtain rfl : j = k := by omega
                rw [HB0.out] at hb'
                cases hb'
                exact HSB.out)
            go_wp2_with fail
            go_roundw
            case rel => exact ⟨k + 1, by omega, by go_num, by first | rfl | trivial, HNO2.out⟩
            case measure => simp [intOf]; omega
          | false =>
            have HT := Lib.hid (show r = false from by
              rw [hr.out, Bool.eq_false_iff]
              intro hall
              have := List.all_eq_true.1 hall b (List.mem_of_getElem? HB0.out)
              rw [HSB.out] at this
              cases this)
            go_wp2_with fail
            go_ret
            rw [HT.out]
            exact ⟨rfl, rfl⟩
      · obtain rfl : k = s.size := by omega
        have HT := Lib.hid (show r = true from by
          rw [hr.out, List.all_eq_true]
          intro b hb
          obtain ⟨j, hj⟩ := List.getElem?_of_mem hb
          exact Hno.out j b (by have := (List.getElem?_eq_some_iff.1 hj).1; rw [HL.out] at this; exact this) hj)
        go_wp2_with fail
        go_ret
        rw [HT.out]
        exact ⟨rfl, rfl⟩
end Go.Proofs.YtlbdpcokddpjpaaGreatDoor

/- The reference's disk: what at, guard, burn, Read return. -/
namespace Go.Proofs.YtlbdpcokddpjpaaGreatDoor
set_option linter.unusedVariables false
open Go Go.RowKit Go.BigFrame
theorem toList_beq (a b : ByteArray) : (a.toList == b.toList) = decide (a = b) := by
  rw [ByteArray.toList_eq, ByteArray.toList_eq, Bool.eq_iff_iff, beq_iff_eq, decide_eq_true_eq]
  exact ⟨fun h => Go.WideShapes.bytes_inj h, fun h => by rw [h]⟩
section
variable {w w' : World} {B g : Nat} {r : Rf.Disk}
theorem fl_flat_len (l : List Rf.Fl) : (l.flatMap Rf.cells).length = l.length * 3 := by
  induction l with
  | nil => rfl
  | cons p l ih => rw [List.flatMap_cons, List.length_append, ih, Rf.cells_len, List.length_cons]; omega
theorem fl_flat_get (l : List Rf.Fl) (k j : Nat) (p : Rf.Fl) (hk : l[k]? = some p) (hj : j < 3) : (l.flatMap Rf.cells)[k * 3 + j]? = (Rf.cells p)[j]? := by
  induction l generalizing k with
  | nil => simp at hk
  | cons q l ih =>
    rw [List.flatMap_cons]
    cases k with
    | zero =>
      simp only [List.getElem?_cons_zero, Option.some.injEq] at hk
      subst hk
      rw [List.getElem?_append_left (by rw [Rf.cells_len]; omega)]
      congr 1
      omega
    | succ k =>
      rw [List.getElem?_append_right (by rw [Rf.cells_len]; omega), Rf.cells_len]
      rw [show (k + 1) * 3 + j - 3 = k * 3 + j by omega]
      exact ih k (by simpa using hk)
/-- A file's cells. -/
theorem OwnF.in_ {v : Value} {l : List Rf.Fl} (h : OwnF w B v l) {k : Nat} {p : Rf.Fl} (hk : l[k]? = some p) : ∃ b cap, v = .slice (some ⟨b, 0, none⟩) l.length cap ∧ B ≤ b ∧ b < w.heap.size ∧ w.cell? ⟨b, k * 3, none⟩ = some (.string p.1) ∧ w.cell? ⟨b, k * 3 + 1, none⟩ = some (.string p.2.data) ∧ w.cell? ⟨b, k * 3 + 2, none⟩ = some (.int .i64 (p.2.synced : Int)) ∧ (∃ cur, w.heap[b]? = some (.cells cur 82 (0, 0))) ∧ l.length ≤ cap := by
  rcases h.block with ⟨_, rfl⟩ | ⟨b, cap, cur, hv, hb, hh, h3, h4, h5⟩
  · simp at hk
  · have hkl := (List.getElem?_eq_some_iff.1 hk).1
    have key : ∀ j, j < 3 → w.cell? ⟨b, k * 3 + j, none⟩ = (Rf.cells p)[j]? := fun j hj => by
      rw [(show Blk w b _ cur from hh).cell, ← Array.getElem?_toList, ← fl_flat_get l k j p hk hj, ← h5, List.getElem?_take_of_lt (by omega)]
    exact ⟨b, cap, hv, hb, (Array.getElem?_eq_some_iff.1 hh).1, key 0 (by omega), key 1 (by omega), key 2 (by omega), ⟨cur, hh⟩, h3⟩
set_option maxRecDepth 100000 in
set_option maxHeartbeats 2000000 in
theorem refAt_any (w : World) (h : RefAt w B g r) (x : ByteArray) (hn : r.files.length ≤ 100000) : Calls Tryz.prog 52 #[.pointer (some ⟨g, 0, none⟩), .string x] w fun e w' => e = .returned (.int .i64 (Rf.idx r.files x)) ∧ w' = w := by
  obtain ⟨h0, v, off, cut, flip, acts, hk, ho, hl⟩ := h
  have c := fun i => hk.cell i
  have HL := Lib.hid hl
  have HN := Lib.hid (show (∀ (j : Nat) (p : Rf.Fl), j < r.files.length → r.files[j]? = some p → p.1 ≠ x) → Rf.idx r.files x = -1 from fun h => Rf.idx_none h)
  have HS := Lib.hid (show ∀ (k : Nat) (p : Rf.Fl), r.files[k]? = some p → p.1 = x → (∀ (j : Nat) (p : Rf.Fl), j < k → r.files[j]? = some p → p.1 ≠ x) → Rf.idx r.files x = (k : Int) from fun k p h1 h2 h3 => Rf.idx_some h1 h2 h3)
  generalize Rf.idx r.files x = res at *
  generalize r.files = l at *
  clear hk hl
  obtain ⟨A, cap, rfl⟩ : ∃ A cap, v = .slice A l.length cap := by
    rcases HL.out.block with ⟨rfl, rfl⟩ | ⟨b, cap, cur, hv, _⟩
    · exact ⟨none, 0, rfl⟩
    · exact ⟨_, _, hv⟩
  go_enter Tryz.func52, Tryz.ntmps52
  go_wp2_with fail
  go_loopw [5] (fun v wr => ∃ k : Nat, k ≤ l.length ∧ v = .int .i64 k ∧ wr = w ∧ ∀ (j : Nat) p, j < k → l[j]? = some p → p.1 ≠ x) (fun v _ => l.length - (intOf v).toNat)
  case atStart => exact ⟨0, by omega, rfl, rfl, fun j p hj => by omega⟩
  case round =>
    obtain ⟨k, hk, rfl, rfl, hno⟩ := hrel
    have Hno := Lib.hid hno
    clear hno
    by_cases hlt : k < l.length
    · have hlk := List.getElem?_eq_getElem hlt
      obtain ⟨b, cap', e, hB, hb, c0, c1, c2, _⟩ := HL.out.in_ hlk
      cases e
      have HLK := Lib.hid hlk
      clear hlk
      generalize l[k] = p at *
      obtain ⟨nm, f⟩ := p
      simp only at c0 c1 c2
      cases hq : (nm.toList == x.toList) with
      | true =>
        have he : nm = x := by rw [toList_beq] at hq; exact of_decide_eq_true hq
        have HT := Lib.hid (HS.out k (nm, f) HLK.out he Hno.out)
        clear he
        go_wp2_with fail
        go_ret
        rw [HT.out]
        exact ⟨rfl, rfl⟩
      | false =>
        have he : nm ≠ x := by rw [toList_beq] at hq; exact of_decide_eq_false hq
        have HNO := Lib.hid (show ∀ (j : Nat) (p : Rf.Fl), j < k + 1 → l[j]? = some p → p.1 ≠ x from fun j p hj hp => by
          rcases Nat.lt_or_ge j k with h | h
          · exact Hno.out j p h hp
          · obtain rfl : j = k := by omega
            rw [HLK.out] at hp
            cases hp
            exact he)
        clear he
        go_wp2_with fail
        go_roundw
        case rel => exact ⟨k + 1, by omega, by go_num, by first | rfl | trivial, HNO.out⟩
        case measure => simp [intOf]; omega
    · have HT := Lib.hid (HN.out (fun j p hj hp => Hno.out j p (by omega) hp))
      go_wp2_with fail
      go_ret
      rw [HT.out]
      exact ⟨rfl, rfl⟩
set_option maxRecDepth 100000 in
theorem refGuard_any (w : World) (h : RefAt w B g r) (x : ByteArray) (hx : x.size ≤ 9223372036854775807) : Calls Tryz.prog 51 #[.pointer (some ⟨g, 0, none⟩), .string x] w fun e w' => e = .returned (.int .i64 (Dk.asked true [x])) ∧ w' = w := by
  obtain ⟨h0, v, off, cut, flip, acts, hk, rfl, hl⟩ := h
  have c := fun i => hk.cell i
  have KI := Lib.hid (refIsName_any x w hx)
  have HA := Lib.hid (show Dk.asked true [x] = if Dk.isName x = true then 0 else 21 from by unfold Dk.asked; by_cases h : Dk.isName x = true <;> simp [h])
  generalize Dk.asked true [x] = q at *
  generalize Dk.isName x = n at *
  clear hk hl
  go_enter Tryz.func51, Tryz.ntmps51
  go_wp2_with fail
  refine KI.out.mono ?_
  rintro e w2 ⟨rfl, rfl⟩
  cases n with
  | true =>
    have HQ := Lib.hid (show q = 0 from HA.out)
    clear HA
    go_wp2_with fail
    go_ret
    rw [HQ.out]
    exact ⟨rfl, rfl⟩
  | false =>
    have HQ := Lib.hid (show q = 21 from HA.out)
    clear HA
    go_wp2_with fail
    go_ret
    rw [HQ.out]
    exact ⟨rfl, rfl⟩
set_option maxRecDepth 100000 in
theorem refBurn_any (w : World) (h : RefAt w B g r) : Calls Tryz.prog 82 #[.pointer (some ⟨g, 0, none⟩)] w fun e w' => e = .returned (.bool false) ∧ RefAt w' B g r ∧ Tu B refT w w' := by
  have HR := Lib.hid h
  obtain ⟨h0, v, off, cut, flip, acts, hk, rfl, hl⟩ := h
  have c := fun i => hk.cell i
  have fz := fun i => hk.frozen i
  have HS := Lib.hid (fun n : Int => HR.out.set_ 6 (.int .i64 n) (l := r.left) (.inr ⟨rfl, rfl, n, rfl⟩))
  clear hk hl
  go_enter Tryz.func82, Tryz.ntmps82
  go_wp2_with fail
  go_ret
  exact ⟨rfl, (HS.out _).1, (HS.out _).2⟩
def Rf.read (r : Rf.Disk) (x : ByteArray) : ByteArray × Int := if Dk.asked true [x] ≠ 0 then (ByteArray.empty, Dk.asked true [x]) else match Dk.get r.files x with
  | none => (ByteArray.empty, 22)
  | some f => (f.data, 0)
set_option maxRecDepth 100000 in
theorem refRead_any (w : World) (h : RefAt w B g r) (hn : r.files.length ≤ 100000) (x : ByteArray) (hx : x.size ≤ 9223372036854775807) : Calls Tryz.prog 16 #[.pointer (some ⟨g, 0, none⟩), .string x] w fun e w' => e = .returned (.tuple #[.string (Rf.read r x).1, .int .i64 (Rf.read r x).2]) ∧ w' = w := by
  have KG := Lib.hid (refGuard_any w h x hx)
  have KA := Lib.hid (refAt_any w h x hn)
  obtain ⟨h0, v, off, cut, flip, acts, hk, rfl, hl⟩ := h
  have c := fun i => hk.cell i
  have HL := Lib.hid hl
  have HRD := Lib.hid (show (Dk.asked true [x] ≠ 0 → Rf.read r x = (ByteArray.empty, Dk.asked true [x])) ∧ (Dk.asked true [x] = 0 → Dk.get r.files x = none → Rf.read r x = (ByteArray.empty, 22)) ∧ (∀ f, Dk.asked true [x] = 0 → Dk.get r.files x = some f → Rf.read r x = (f.data, 0)) from
    ⟨fun h => by unfold Rf.read; rw [if_pos h], fun h h2 => by unfold Rf.read; rw [if_neg (by rw [h]; simp), h2], fun f h h2 => by unfold Rf.read; rw [if_neg (by rw [h]; simp), h2]⟩)
  have HC := Lib.hid (Rf.idx_cases r.files x)
  have hq := asked_cases true [x]
  generalize Rf.read r x = res at *
  generalize Dk.asked true [x] = q at *
  clear hk hl
  go_enter Tryz.func16, Tryz.ntmps16
  go_wp2_with fail
  refine KG.out.mono ?_
  rintro e w2 ⟨rfl, rfl⟩
  rcases hq with rfl | rfl | rfl
  · go_wp2_with fail
    refine KA.out.mono ?_
    rintro e w3 ⟨rfl, rfl⟩
    rcases HC.out with ⟨e1, e2⟩ | ⟨k, f, e1, e2, e3⟩
    · have HQ := Lib.hid (HRD.out.2.1 (by trivial) e2)
      rw [e1]
      clear HRD HC e1 e2
      go_wp2_with fail
      refine bodyPost_ret (results_tmp2 rfl _ _ _) rfl ?_
      rw [HQ.out]
      exact ⟨rfl, rfl⟩
    · have HQ := Lib.hid (HRD.out.2.2 f (by trivial) e3)
      rw [e1]
      have hkl := (List.getElem?_eq_some_iff.1 e2).1
      obtain ⟨b, cap, rfl, hB, hb, c0, c1, c2, _, hcap⟩ := HL.out.in_ e2
      simp only at c1
      clear HRD HC e1 e2 e3
      go_wp2_with fail
      refine bodyPost_ret (results_tmp2 rfl _ _ _) rfl ?_
      rw [HQ.out]
      exact ⟨rfl, rfl⟩
  · have HQ := Lib.hid (HRD.out.1 (by decide))
    go_wp2_with fail
    refine bodyPost_ret (results_tmp2 rfl _ _ _) rfl ?_
    rw [HQ.out]
    exact ⟨rfl, rfl⟩
  · have HQ := Lib.hid (HRD.out.1 (by decide))
    go_wp2_with fail
    refine bodyPost_ret (results_tmp2 rfl _ _ _) rfl ?_
    rw [HQ.out]
    exact ⟨rfl, rfl⟩
end
end Go.Proofs.YtlbdpcokddpjpaaGreatDoor
