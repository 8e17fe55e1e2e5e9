/- Part A1 of the proof: the statement that is proved stands in the text that ends with its name. No conditions beyond the card's. -/
import Derived.Test.YtmabpnmnppfgaaaGreatDoorP1
import Derived.Test.YtmabpnmnppfgaaaGreatDoorSh
import Derived.Deep.RegionLaw
namespace Go.Proofs.YtmabpnmnppfgaaaGreatDoor
set_option linter.unusedVariables false
open Go Go.RowKit Go.BigFrame
namespace Ad
abbrev Bs := List UInt8
def letter (c : UInt8) : Bool := decide (97 ≤ c.toNat ∧ c.toNat ≤ 122 ∨ 65 ≤ c.toNat ∧ c.toNat ≤ 90)
def digit (c : UInt8) : Bool := decide (48 ≤ c.toNat ∧ c.toNat ≤ 57)
def nameC (c : UInt8) : Bool := letter c || digit c || decide (c.toNat = 95)
def pathC (c : UInt8) : Bool := letter c || digit c || decide (0 ≤ Lib.indexByte [91, 93, 45, 46] (c.toNat : Int).toNat.toUInt8)
def run (p : UInt8 → Bool) (l : Bs) : Nat := (l.takeWhile p).length
theorem run_le (p : UInt8 → Bool) (l : Bs) : run p l ≤ l.length := by
  unfold run
  exact (List.takeWhile_prefix p).length_le
theorem run_drop (p : UInt8 → Bool) (l : Bs) (k : Nat) (h : ∀ j, j < k → ∃ c, l[j]? = some c ∧ p c = true) : run p l = k + run p (l.drop k) := by
  induction k generalizing l with
  | zero => simp
  | succ k ih =>
    cases l with
    | nil =>
      obtain ⟨c, hc, _⟩ := h 0 (by omega)
      cases hc
    | cons a l =>
      obtain ⟨c, hc, hp⟩ := h 0 (by omega)
      simp at hc
      subst hc
      have h2 := ih l (fun j hj => by
        have := h (j + 1) (by omega)
        simpa using this)
      unfold run at h2 ⊢
      rw [List.takeWhile_cons_of_pos hp]
      simp [h2]
      omega
theorem run_stop (p : UInt8 → Bool) {l : Bs} {c : UInt8} (h : l[0]? = some c) (hp : p c = false) : run p l = 0 := by
  cases l with
  | nil => rfl
  | cons a l =>
    simp at h
    subst h
    unfold run
    rw [List.takeWhile_cons_of_neg (by simp [hp])]
    rfl
end Ad
set_option maxRecDepth 100000 in
set_option maxHeartbeats 400000 in
theorem letter_any (c : UInt8) (w : World) :
    Calls Tryz.prog 136 #[.int .u8 (c.toNat : Int)] w fun e w' => e = .returned (.bool (Ad.letter c)) ∧ w' = w := by
  have hb := c.toNat_lt
  have hn : Ad.letter c = decide (97 ≤ c.toNat ∧ c.toNat ≤ 122 ∨ 65 ≤ c.toNat ∧ c.toNat ≤ 90) := rfl
  generalize Ad.letter c = r at *
  generalize c.toNat = n at *
  rcases (by omega : n < 65 ∨ (65 ≤ n ∧ n ≤ 90) ∨ (90 < n ∧ n < 97) ∨ (97 ≤ n ∧ n ≤ 122) ∨ 122 < n) with h | ⟨h, h'⟩ | ⟨h, h'⟩ | ⟨h, h'⟩ | h <;>
  (have HR := Lib.hid hn
   clear hn
   go_enter Tryz.func136, Tryz.ntmps136
   go_wp2
   go_ret
   refine ⟨?_, rfl⟩
   have h2 := HR.out
   first | rw [decide_eq_true (by omega)] at h2 | rw [decide_eq_false (by omega)] at h2
   rw [h2]
   first | rfl | (refine congrArg (fun b => Ending.returned (Value.bool b)) ?_; simp; omega))
set_option maxRecDepth 100000 in
set_option maxHeartbeats 400000 in
theorem isDigit_any (c : UInt8) (w : World) :
    Calls Tryz.prog 213 #[.int .u8 (c.toNat : Int)] w fun e w' => e = .returned (.bool (Ad.digit c)) ∧ w' = w := by
  have hb := c.toNat_lt
  have hn : Ad.digit c = decide (48 ≤ c.toNat ∧ c.toNat ≤ 57) := rfl
  generalize Ad.digit c = r at *
  generalize c.toNat = n at *
  rcases (by omega : n < 48 ∨ (48 ≤ n ∧ n ≤ 57) ∨ 57 < n) with h | ⟨h, h'⟩ | h <;>
  (have HR := Lib.hid hn
   clear hn
   go_enter Tryz.func213, Tryz.ntmps213
   go_wp2
   go_ret
   refine ⟨?_, rfl⟩
   have h2 := HR.out
   first | rw [decide_eq_true (by omega)] at h2 | rw [decide_eq_false (by omega)] at h2
   rw [h2]
   first | rfl | (refine congrArg (fun b => Ending.returned (Value.bool b)) ?_; simp; omega))
set_option maxRecDepth 100000 in
set_option maxHeartbeats 400000 in
theorem inName_any (c : UInt8) (w : World) :
    Calls Tryz.prog 138 #[.int .u8 (c.toNat : Int)] w fun e w' => e = .returned (.bool (Ad.nameC c)) ∧ w' = w := by
  have hb := c.toNat_lt
  have K1 := Lib.hid (letter_any c w)
  have K2 := Lib.hid (isDigit_any c w)
  have hn : Ad.nameC c = (Ad.letter c || Ad.digit c || decide (c.toNat = 95)) := rfl
  generalize Ad.letter c = r1 at *
  generalize Ad.digit c = r2 at *
  generalize Ad.nameC c = r at *
  generalize c.toNat = n at *
  have HR := Lib.hid hn
  clear hn
  cases r1 with
  | true =>
    go_enter Tryz.func138, Tryz.ntmps138
    go_wp2_with (refine K1.out.mono ?_; rintro e w' ⟨rfl, rfl⟩)
    go_ret
    exact ⟨by rw [HR.out]; simp, rfl⟩
  | false =>
    cases r2 with
    | true =>
      go_enter Tryz.func138, Tryz.ntmps138
      go_wp2_with (first | (go_at_call 136; refine K1.out.mono ?_; rintro e w' ⟨rfl, rfl⟩) | (go_at_call 213; refine K2.out.mono ?_; rintro e w' ⟨rfl, rfl⟩))
      go_ret
      exact ⟨by rw [HR.out]; simp, rfl⟩
    | false =>
      obtain ⟨q, hq⟩ : ∃ q, ((n : Int) == 95) = q := ⟨_, rfl⟩
      have HQ := Lib.hid (show decide (n = 95) = q by rw [← hq]; cases hd : ((n : Int) == 95) with
        | true => rw [beq_iff_eq] at hd; exact decide_eq_true (by omega)
        | false => rw [beq_eq_false_iff_ne] at hd; exact decide_eq_false (by omega))
      go_enter Tryz.func138, Tryz.ntmps138
      go_wp2_with (first | (go_at_call 136; refine K1.out.mono ?_; rintro e w' ⟨rfl, rfl⟩) | (go_at_call 213; refine K2.out.mono ?_; rintro e w' ⟨rfl, rfl⟩))
      go_ret
      refine ⟨?_, rfl⟩
      rw [HR.out, HQ.out]
      rfl
end Go.Proofs.YtmabpnmnppfgaaaGreatDoor
namespace Go.Proofs.YtmabpnmnppfgaaaGreatDoor
set_option linter.unusedVariables false
open Go Go.RowKit Go.BigFrame
set_option maxRecDepth 100000 in
set_option maxHeartbeats 400000 in
theorem inPath_any (c : UInt8) (w : World) :
    Calls Tryz.prog 216 #[.int .u8 (c.toNat : Int)] w fun e w' => e = .returned (.bool (Ad.pathC c)) ∧ w' = w := by
  have hb := c.toNat_lt
  have K1 := Lib.hid (letter_any c w)
  have K2 := Lib.hid (isDigit_any c w)
  have K3 := Lib.hid (Tryz.strings_IndexByte ⟨#[91, 93, 45, 46]⟩ (c.toNat : Int) w)
  have hn : Ad.pathC c = (Ad.letter c || Ad.digit c || decide (0 ≤ Lib.indexByte [91, 93, 45, 46] (c.toNat : Int).toNat.toUInt8)) := rfl
  have e : (⟨#[91, 93, 45, 46]⟩ : ByteArray).data.toList = [91, 93, 45, 46] := rfl
  rw [e] at K3
  clear e
  generalize Lib.indexByte [91, 93, 45, 46] (c.toNat : Int).toNat.toUInt8 = ix at *
  generalize Ad.letter c = r1 at *
  generalize Ad.digit c = r2 at *
  generalize Ad.pathC c = r at *
  generalize c.toNat = n at *
  have HR := Lib.hid hn
  clear hn
  cases r1 with
  | true =>
    go_enter Tryz.func216, Tryz.ntmps216
    go_wp2_with (refine K1.out.mono ?_; rintro e w' ⟨rfl, rfl⟩)
    go_ret
    exact ⟨by rw [HR.out]; simp, rfl⟩
  | false =>
    cases r2 with
    | true =>
      go_enter Tryz.func216, Tryz.ntmps216
      go_wp2_with (first | (go_at_call 136; refine K1.out.mono ?_; rintro e w' ⟨rfl, rfl⟩) | (go_at_call 213; refine K2.out.mono ?_; rintro e w' ⟨rfl, rfl⟩))
      go_ret
      exact ⟨by rw [HR.out]; simp, rfl⟩
    | false =>
      go_enter Tryz.func216, Tryz.ntmps216
      go_wp2_with (first | (go_at_call 136; refine K1.out.mono ?_; rintro e w' ⟨rfl, rfl⟩) | (go_at_call 213; refine K2.out.mono ?_; rintro e w' ⟨rfl, rfl⟩) | (go_at_call 273; refine K3.out.mono ?_; rintro e w' ⟨rfl, rfl⟩))
      go_ret
      refine ⟨?_, rfl⟩
      rw [HR.out]
      rfl
set_option maxRecDepth 100000 in
set_option maxHeartbeats 400000 in
theorem runName_any (s : ByteArray) (w : World) (hs : s.size ≤ 1000000) :
    Calls Tryz.prog 137 #[.string s, .func (.func 138) #[] #[]] w fun e w' => e = .returned (.int .i64 (Ad.run Ad.nameC s.data.toList : Nat)) ∧ w' = w := by
  have hle : Ad.run Ad.nameC s.data.toList ≤ s.size := by have := Ad.run_le Ad.nameC s.data.toList; simpa using this
  have HLE := Lib.hid hle
  clear hle
  go_enter Tryz.func137, Tryz.ntmps137
  go_wp2_with fail
  go_loopw [5] (fun v wr => ∃ k : Nat, v = .int .i64 k ∧ k ≤ s.size ∧ wr = w ∧ ∀ j, j < k → ∃ c, s.data.toList[j]? = some c ∧ Ad.nameC c = true) (fun v _ => s.size - (intOf v).toNat)
  case atStart => exact ⟨0, rfl, by omega, rfl, fun j hj => absurd hj (by omega)⟩
  case round =>
    obtain ⟨k, rfl, hk, rfl, hall⟩ := hrel
    have HALL := Lib.hid hall
    clear hall
    by_cases hlt : k < s.size
    · have hget : s.data.toList[k]? = some s[k] := by
        have h2 : k < s.data.toList.length := by simpa using hlt
        rw [List.getElem?_eq_getElem h2]
        rfl
      have HG := Lib.hid hget
      clear hget
      have K := Lib.hid (inName_any s[k] wr)
      obtain ⟨b, hb⟩ : ∃ b, Ad.nameC s[k] = b := ⟨_, rfl⟩
      have HB := Lib.hid hb
      rw [hb] at K
      clear hb
      cases b with
      | true =>
        go_wp2_with fail
        refine K.out.mono ?_
        rintro e w2 ⟨rfl, rfl⟩
        go_wp2_with fail
        go_roundw
        case rel =>
          refine ⟨k + 1, by go_num, by omega, by trivial, fun j hj => ?_⟩
          rcases Nat.lt_or_ge j k with h | h
          · exact HALL.out j h
          · obtain rfl : j = k := by omega
            exact ⟨_, HG.out, HB.out⟩
        case measure => simp [intOf]; omega
      | false =>
        go_wp2_with fail
        refine K.out.mono ?_
        rintro e w2 ⟨rfl, rfl⟩
        go_wp2_with fail
        go_ret
        refine ⟨?_, rfl⟩
        have h1 := Ad.run_drop Ad.nameC s.data.toList k HALL.out
        rw [Ad.run_stop Ad.nameC (l := s.data.toList.drop k) (c := s[k]) (by rw [List.getElem?_drop]; exact HG.out) HB.out] at h1
        rw [h1]
        rfl
    · obtain rfl : k = s.size := by omega
      go_wp2_with fail
      go_ret
      refine ⟨?_, rfl⟩
      have h1 := Ad.run_drop Ad.nameC s.data.toList s.size HALL.out
      rw [List.drop_eq_nil_of_le (by simp)] at h1
      rw [h1]
      rfl
set_option maxRecDepth 100000 in
set_option maxHeartbeats 400000 in
theorem runDigit_any (s : ByteArray) (w : World) (hs : s.size ≤ 1000000) :
    Calls Tryz.prog 137 #[.string s, .func (.func 213) #[] #[]] w fun e w' => e = .returned (.int .i64 (Ad.run Ad.digit s.data.toList : Nat)) ∧ w' = w := by
  have hle : Ad.run Ad.digit s.data.toList ≤ s.size := by have := Ad.run_le Ad.digit s.data.toList; simpa using this
  have HLE := Lib.hid hle
  clear hle
  go_enter Tryz.func137, Tryz.ntmps137
  go_wp2_with fail
  go_loopw [5] (fun v wr => ∃ k : Nat, v = .int .i64 k ∧ k ≤ s.size ∧ wr = w ∧ ∀ j, j < k → ∃ c, s.data.toList[j]? = some c ∧ Ad.digit c = true) (fun v _ => s.size - (intOf v).toNat)
  case atStart => exact ⟨0, rfl, by omega, rfl, fun j hj => absurd hj (by omega)⟩
  case round =>
    obtain ⟨k, rfl, hk, rfl, hall⟩ := hrel
    have HALL := Lib.hid hall
    clear hall
    by_cases hlt : k < s.size
    · have hget : s.data.toList[k]? = some s[k] := by
        have h2 : k < s.data.toList.length := by simpa using hlt
        rw [List.getElem?_eq_getElem h2]
        rfl
      have HG := Lib.hid hget
      clear hget
      have K := Lib.hid (isDigit_any s[k] wr)
      obtain ⟨b, hb⟩ : ∃ b, Ad.digit s[k] = b := ⟨_, rfl⟩
      have HB := Lib.hid hb
      rw [hb] at K
      clear hb
      cases b with
      | true =>
        go_wp2_with fail
        refine K.out.mono ?_
        rintro e w2 ⟨rfl, rfl⟩
        go_wp2_with fail
        go_roundw
        case rel =>
          refine ⟨k + 1, by go_num, by omega, by trivial, fun j hj => ?_⟩
          rcases Nat.lt_or_ge j k with h | h
          · exact HALL.out j h
          · obtain rfl : j = k := by omega
            exact ⟨_, HG.out, HB.out⟩
        case measure => simp [intOf]; omega
      | false =>
        go_wp2_with fail
        refine K.out.mono ?_
        rintro e w2 ⟨rfl, rfl⟩
        go_wp2_with fail
        go_ret
        refine ⟨?_, rfl⟩
        have h1 := Ad.run_drop Ad.digit s.data.toList k HALL.out
        rw [Ad.run_stop Ad.digit (l := s.data.toList.drop k) (c := s[k]) (by rw [List.getElem?_drop]; exact HG.out) HB.out] at h1
        rw [h1]
        rfl
    · obtain rfl : k = s.size := by omega
      go_wp2_with fail
      go_ret
      refine ⟨?_, rfl⟩
      have h1 := Ad.run_drop Ad.digit s.data.toList s.size HALL.out
      rw [List.drop_eq_nil_of_le (by simp)] at h1
      rw [h1]
      rfl
set_option maxRecDepth 100000 in
set_option maxHeartbeats 400000 in
theorem runPath_any (s : ByteArray) (w : World) (hs : s.size ≤ 1000000) :
    Calls Tryz.prog 137 #[.string s, .func (.func 216) #[] #[]] w fun e w' => e = .returned (.int .i64 (Ad.run Ad.pathC s.data.toList : Nat)) ∧ w' = w := by
  have hle : Ad.run Ad.pathC s.data.toList ≤ s.size := by have := Ad.run_le Ad.pathC s.data.toList; simpa using this
  have HLE := Lib.hid hle
  clear hle
  go_enter Tryz.func137, Tryz.ntmps137
  go_wp2_with fail
  go_loopw [5] (fun v wr => ∃ k : Nat, v = .int .i64 k ∧ k ≤ s.size ∧ wr = w ∧ ∀ j, j < k → ∃ c, s.data.toList[j]? = some c ∧ Ad.pathC c = true) (fun v _ => s.size - (intOf v).toNat)
  case atStart => exact ⟨0, rfl, by omega, rfl, fun j hj => absurd hj (by omega)⟩
  case round =>
    obtain ⟨k, rfl, hk, rfl, hall⟩ := hrel
    have HALL := Lib.hid hall
    clear hall
    by_cases hlt : k < s.size
    · have hget : s.data.toList[k]? = some s[k] := by
        have h2 : k < s.data.toList.length := by simpa using hlt
        rw [List.getElem?_eq_getElem h2]
        rfl
      have HG := Lib.hid hget
      clear hget
      have K := Lib.hid (inPath_any s[k] wr)
      obtain ⟨b, hb⟩ : ∃ b, Ad.pathC s[k] = b := ⟨_, rfl⟩
      have HB := Lib.hid hb
      rw [hb] at K
      clear hb
      cases b with
      | true =>
        go_wp2_with fail
        refine K.out.mono ?_
        rintro e w2 ⟨rfl, rfl⟩
        go_wp2_with fail
        go_roundw
        case rel =>
          refine ⟨k + 1, by go_num, by omega, by trivial, fun j hj => ?_⟩
          rcases Nat.lt_or_ge j k with h | h
          · exact HALL.out j h
          · obtain rfl : j = k := by omega
            exact ⟨_, HG.out, HB.out⟩
        case measure => simp [intOf]; omega
      | false =>
        go_wp2_with fail
        refine K.out.mono ?_
        rintro e w2 ⟨rfl, rfl⟩
        go_wp2_with fail
        go_ret
        refine ⟨?_, rfl⟩
        have h1 := Ad.run_drop Ad.pathC s.data.toList k HALL.out
        rw [Ad.run_stop Ad.pathC (l := s.data.toList.drop k) (c := s[k]) (by rw [List.getElem?_drop]; exact HG.out) HB.out] at h1
        rw [h1]
        rfl
    · obtain rfl : k = s.size := by omega
      go_wp2_with fail
      go_ret
      refine ⟨?_, rfl⟩
      have h1 := Ad.run_drop Ad.pathC s.data.toList s.size HALL.out
      rw [List.drop_eq_nil_of_le (by simp)] at h1
      rw [h1]
      rfl
end Go.Proofs.YtmabpnmnppfgaaaGreatDoor
namespace Go.Proofs.YtmabpnmnppfgaaaGreatDoor
set_option linter.unusedVariables false
open Go
namespace Ad
def text (l : Bs) : Option (Bs × Nat) :=
  match l with
  | [] => none
  | c :: r =>
    if c.toNat = 34 then some ([], 1)
    else if c.toNat < 32 ∨ 126 < c.toNat then none
    else if c.toNat ≠ 92 then (text r).map fun x => (c :: x.1, x.2 + 1)
    else match r with
      | [] => none
      | d :: r2 =>
        if d.toNat = 34 ∨ d.toNat = 92 then (text r2).map fun x => (d :: x.1, x.2 + 2)
        else if d.toNat ≠ 120 then none
        else match r2 with
          | a :: b :: r3 =>
            match P.unhex [a, b] with
            | none => none
            | some v => (text r3).map fun x => (v ++ x.1, x.2 + 4)
          | _ => none
termination_by l.length
decreasing_by all_goals (simp; try omega)
theorem text_nil : text [] = none := by unfold text; rfl
theorem text_end {c : UInt8} {r : Bs} (h : c.toNat = 34) : text (c :: r) = some ([], 1) := by unfold text; rw [if_pos h]
theorem text_bad {c : UInt8} {r : Bs} (h : c.toNat ≠ 34) (h2 : c.toNat < 32 ∨ 126 < c.toNat) : text (c :: r) = none := by unfold text; rw [if_neg h, if_pos h2]
theorem text_plain {c : UInt8} {r : Bs} (h : c.toNat ≠ 34) (h2 : 32 ≤ c.toNat ∧ c.toNat ≤ 126) (h3 : c.toNat ≠ 92) : text (c :: r) = (text r).map fun x => (c :: x.1, x.2 + 1) := by
  conv => lhs; unfold text
  rw [if_neg h, if_neg (by omega), if_pos h3]
theorem text_one {c : UInt8} (h : c.toNat = 92) : text [c] = none := by
  unfold text
  rw [if_neg (by omega), if_neg (by omega), if_neg (by simpa using h)]
theorem text_esc {c d : UInt8} {r : Bs} (h : c.toNat = 92) (h2 : d.toNat = 34 ∨ d.toNat = 92) : text (c :: d :: r) = (text r).map fun x => (d :: x.1, x.2 + 2) := by
  conv => lhs; unfold text
  rw [if_neg (by omega), if_neg (by omega), if_neg (by simpa using h)]
  simp only [if_pos h2]
theorem text_noesc {c d : UInt8} {r : Bs} (h : c.toNat = 92) (h2 : d.toNat ≠ 34 ∧ d.toNat ≠ 92) (h3 : d.toNat ≠ 120) : text (c :: d :: r) = none := by
  unfold text
  rw [if_neg (by omega), if_neg (by omega), if_neg (by simpa using h)]
  simp only [if_neg (show ¬ (d.toNat = 34 ∨ d.toNat = 92) by omega), if_pos h3]
theorem text_short {c d : UInt8} {r : Bs} (h : c.toNat = 92) (h2 : d.toNat ≠ 34 ∧ d.toNat ≠ 92) (h3 : r.length < 2) : text (c :: d :: r) = none := by
  unfold text
  rw [if_neg (by omega), if_neg (by omega), if_neg (by simpa using h)]
  simp only [if_neg (show ¬ (d.toNat = 34 ∨ d.toNat = 92) by omega)]
  split
  · rfl
  · split
    · simp at h3; omega
    · rfl
theorem text_hex {c d a b : UInt8} {r : Bs} (h : c.toNat = 92) (h2 : d.toNat = 120) : text (c :: d :: a :: b :: r) = match P.unhex [a, b] with | none => none | some v => (text r).map fun x => (v ++ x.1, x.2 + 4) := by
  conv => lhs; unfold text
  rw [if_neg (by omega), if_neg (by omega), if_neg (by simpa using h)]
  simp only [if_neg (show ¬ (d.toNat = 34 ∨ d.toNat = 92) by omega), if_neg (show ¬ d.toNat ≠ 120 by omega)]
theorem text_len : ∀ (k : Nat) (l v : Bs) (n : Nat), l.length ≤ k → text l = some (v, n) → 1 ≤ n ∧ n ≤ l.length
  | 0, l, v, n, hk, h => by
    cases l with
    | nil => rw [text_nil] at h; cases h
    | cons a l => simp at hk
  | k + 1, l, v, n, hk, h => by
    cases l with
    | nil => rw [text_nil] at h; cases h
    | cons c r =>
      simp at hk
      have go : ∀ (r : Bs) (f : Bs → Bs) (j : Nat), r.length ≤ k → (text r).map (fun x => (f x.1, x.2 + j)) = some (v, n) → 1 ≤ n ∧ n ≤ r.length + j := by
        intro r f j hr h
        cases ht : text r with
        | none => rw [ht] at h; cases h
        | some y =>
          rw [ht] at h
          simp at h
          have := text_len k r y.1 y.2 hr ht
          omega
      by_cases h1 : c.toNat = 34
      · rw [text_end h1] at h
        simp at h
        simp
        try omega
      · by_cases h2 : c.toNat < 32 ∨ 126 < c.toNat
        · rw [text_bad h1 h2] at h; cases h
        · by_cases h3 : c.toNat = 92
          · cases r with
            | nil => rw [text_one h3] at h; cases h
            | cons d r =>
              simp at hk
              by_cases h4 : d.toNat = 34 ∨ d.toNat = 92
              · rw [text_esc h3 h4] at h
                have := go r (fun x => d :: x) 2 (by omega) h
                simp
                omega
              · by_cases h5 : d.toNat = 120
                · cases r with
                  | nil => rw [text_short h3 (by omega) (by simp)] at h; cases h
                  | cons a r =>
                    cases r with
                    | nil => rw [text_short h3 (by omega) (by simp)] at h; cases h
                    | cons b r =>
                      simp at hk
                      rw [text_hex h3 h5] at h
                      split at h
                      · cases h
                      · rename_i u _
                        have := go r (fun x => u ++ x) 4 (by omega) h
                        simp
                        omega
                · rw [text_noesc h3 (by omega) h5] at h; cases h
          · rw [text_plain h1 (by omega) h3] at h
            have := go r (fun x => c :: x) 1 (by omega) h
            simp
            omega
def quoteB (c : UInt8) : Bs := if c.toNat = 34 ∨ c.toNat = 92 then [92, c] else if 32 ≤ c.toNat ∧ c.toNat ≤ 126 then [c] else [92, 120] ++ P.hexB c
def quoteL (v : Bs) : Bs := v.flatMap quoteB
def quote (v : Bs) : Bs := 34 :: (quoteL v ++ [34])
theorem quoteL_snoc (v : Bs) (c : UInt8) : quoteL (v ++ [c]) = quoteL v ++ quoteB c := by simp [quoteL]
theorem quoteB_len (c : UInt8) : (quoteB c).length ≤ 4 := by
  unfold quoteB
  split
  · simp
  · split
    · simp
    · simp [P.hexB]
theorem quoteL_len (v : Bs) : (quoteL v).length ≤ 4 * v.length := by
  induction v with
  | nil => simp [quoteL]
  | cons c v ih =>
    have := quoteB_len c
    simp [quoteL] at ih ⊢
    omega
theorem unhex_one (c : UInt8) : P.unhex (P.hexB c) = some [c] := by
  have := P.unhex_hex [c]
  simpa [P.hex] using this
theorem text_quote (v r : Bs) : text (quoteL v ++ 34 :: r) = some (v, (quoteL v).length + 1) := by
  induction v with
  | nil => exact text_end rfl
  | cons c v ih =>
    have e : quoteL (c :: v) = quoteB c ++ quoteL v := rfl
    rw [e]
    unfold quoteB
    split
    · rename_i h
      show text (92 :: c :: (quoteL v ++ 34 :: r)) = _
      rw [text_esc rfl h, ih]
      simp
      try omega
    · rename_i h
      split
      · rename_i h2
        show text (c :: (quoteL v ++ 34 :: r)) = _
        rw [text_plain (by omega) h2 (by omega), ih]
        simp
        try omega
      · show text (92 :: 120 :: P.hd (c.toNat / 16) :: P.hd (c.toNat % 16) :: (quoteL v ++ 34 :: r)) = _
        rw [text_hex rfl rfl]
        have := unhex_one c
        unfold P.hexB at this
        rw [this]
        simp only
        rw [ih]
        simp [P.hexB]
        try omega
structure Tok where
  kind : Int
  text : Bs
  num : Int
def wordF (s : Bs) : Option (Tok × Nat) :=
  match s with
  | [] => none
  | c :: r =>
    if letter c = true then (if 32 < run nameC s then none else some (⟨1, s.take (run nameC s), 0⟩, run nameC s))
    else if digit c = true then (if P.numOk (s.take (run digit s)) = true then some (⟨2, s.take (run digit s), P.numV (s.take (run digit s))⟩, run digit s) else none)
    else match text r with
      | none => none
      | some (v, n) => if 4096 < v.length then none else some (⟨3, v, 0⟩, n + 1)
def WordR (s : Bs) (x : Option (Tok × Nat)) : Prop :=
  match s with
  | [] => False
  | c :: _ => if letter c = true ∨ digit c = true ∨ c.toNat = 34 then x = wordF s else (x = none ∨ ∃ t n, 1 ≤ n ∧ n ≤ s.length ∧ (t.kind = 4 ∨ t.kind = 5) ∧ x = some (t, n))
def blank (c : UInt8) : Prop := c.toNat = 10 ∨ c.toNat = 32 ∨ c.toNat = 9 ∨ c.toNat = 13
inductive ScanR : Bs → Option (List Tok) → Prop
  | nil : ScanR [] (some [])
  | skip (c : UInt8) (r : Bs) (x : Option (List Tok)) : blank c → ScanR r x → ScanR (c :: r) x
  | remark (c : UInt8) (r : Bs) (k : Nat) (x : Option (List Tok)) : c.toNat = 35 → ScanR (r.drop k) x → ScanR (c :: r) x
  | bad (c : UInt8) (r : Bs) : ¬ blank c → c.toNat ≠ 35 → WordR (c :: r) none → ScanR (c :: r) none
  | word (c : UInt8) (r : Bs) (t : Tok) (n : Nat) (x : Option (List Tok)) : ¬ blank c → c.toNat ≠ 35 → WordR (c :: r) (some (t, n)) → ScanR ((c :: r).drop n) x → ScanR (c :: r) (x.map (t :: ·))
theorem scan_skip {c : UInt8} {r : Bs} {x : Option (List Tok)} (h : ScanR (c :: r) x) (hc : blank c) : ScanR r x := by
  cases h with
  | skip _ _ _ _ h => exact h
  | remark _ _ _ _ h2 _ => unfold blank at hc; omega
  | bad _ _ h2 _ _ => exact absurd hc h2
  | word _ _ _ _ _ h2 _ _ _ => exact absurd hc h2
theorem scan_word {c : UInt8} {r : Bs} {x : Option (List Tok)} (h : ScanR (c :: r) x) (hc : letter c = true ∨ digit c = true ∨ c.toNat = 34) :
    match wordF (c :: r) with
    | none => x = none
    | some (t, n) => ∃ y, ScanR ((c :: r).drop n) y ∧ x = y.map (t :: ·) := by
  have hb : ¬ blank c ∧ c.toNat ≠ 35 := by
    unfold blank
    rcases hc with h | h | h
    · unfold letter at h; simp at h; omega
    · unfold digit at h; simp at h; omega
    · omega
  cases h with
  | skip _ _ _ h2 _ => exact absurd h2 hb.1
  | remark _ _ _ _ h2 _ => exact absurd h2 hb.2
  | bad _ _ _ _ h2 =>
    unfold WordR at h2
    simp only [if_pos hc] at h2
    rw [← h2]
  | word _ _ t n y _ _ h2 h3 =>
    unfold WordR at h2
    simp only [if_pos hc] at h2
    rw [← h2]
    exact ⟨y, h3, rfl⟩
end Ad
end Go.Proofs.YtmabpnmnppfgaaaGreatDoor
