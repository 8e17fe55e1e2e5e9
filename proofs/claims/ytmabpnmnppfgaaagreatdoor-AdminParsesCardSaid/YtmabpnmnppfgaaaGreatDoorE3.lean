/- Part E3 of the proof: the statement that is proved stands in the text that ends with its name. No conditions beyond the card's. -/
import Derived.Test.YtmabpnmnppfgaaaGreatDoorA3
import Derived.RegionTactic
import Derived.ChangeAlike
namespace Go.Proofs.YtmabpnmnppfgaaaGreatDoor
set_option linter.unusedVariables false
open Go Go.RowKit Go.BigFrame
namespace Ad
def signs : List Nat := [40, 41, 123, 125, 44, 59, 61, 60, 62, 43]
theorem prefix_one (r : Bs) : Lib.hasPrefix r [61] = match r with | [] => false | a :: _ => a == 61 := by
  cases r with
  | nil => rfl
  | cons a r =>
    show List.isPrefixOf [61] (a :: r) = (a == 61)
    simp only [List.isPrefixOf, Bool.and_true]
    rw [Bool.eq_iff_iff, beq_iff_eq, beq_iff_eq, eq_comm]
theorem sign_two {c : UInt8} {r : Bs} (hq : Lib.hasPrefix r [61] = true) (hc : c.toNat = 61 ∨ c.toNat = 33 ∨ c.toNat = 60 ∨ c.toNat = 62) : signN (c :: r) = 2 := by
  unfold signN
  simp only [hq, if_true]
  split
  · rfl
  · rw [if_pos (by omega)]
theorem sign_some {c : UInt8} {r : Bs} (hq : Lib.hasPrefix r [61] = false ∨ ¬ (c.toNat = 61 ∨ c.toNat = 33 ∨ c.toNat = 60 ∨ c.toNat = 62)) (h : ∃ j : Nat, signs[j]? = some c.toNat) : signN (c :: r) = 1 := by
  obtain ⟨j, hj⟩ := h
  have hm := List.mem_of_getElem? hj
  simp only [signs, List.mem_cons, List.not_mem_nil, or_false] at hm
  unfold signN
  simp only
  split
  · rcases hq with hq | hq
    · rw [hq]; rfl
    · omega
  · rw [if_neg (by omega), if_pos (by omega)]
theorem sign_none {c : UInt8} {r : Bs} (hq : Lib.hasPrefix r [61] = false ∨ ¬ (c.toNat = 61 ∨ c.toNat = 33 ∨ c.toNat = 60 ∨ c.toNat = 62)) (h : ∀ j, j < 10 → signs[j]? ≠ some c.toNat) : signN (c :: r) = 0 := by
  have hm : c.toNat ∉ signs := fun hm => by
    obtain ⟨j, hj⟩ := List.getElem?_of_mem hm
    have hl := (List.getElem?_eq_some_iff.1 hj).1
    exact h j (by simpa [signs] using hl) hj
  simp only [signs, List.mem_cons, List.not_mem_nil, or_false] at hm
  unfold signN
  simp only
  rw [if_neg (by omega)]
  split
  · rcases hq with hq | hq
    · rw [hq]; rfl
    · omega
  · rw [if_neg (by omega)]
def signB (i : Nat) : Int := ((signs.getD i 0 : Nat) : Int)
theorem signB_eq (i : Nat) (h : i < 10) (c : Nat) (hc : signB i = (c : Int)) : signs[i]? = some c := by
  unfold signB at hc
  rw [List.getD_eq_getElem?_getD, List.getElem?_eq_getElem (by simpa [signs] using h)] at hc
  rw [List.getElem?_eq_getElem (by simpa [signs] using h)]
  simp only [Option.getD_some] at hc
  rw [Int.ofNat_inj.1 hc]
theorem signB_back (i : Nat) (h : i < 10) (c : Nat) (hc : signs[i]? = some c) : signB i = (c : Int) := by
  unfold signB
  rw [List.getD_eq_getElem?_getD, hc]
  rfl
theorem sign_at (i : Nat) (h : i < 10) (W : World) : (Instr.index 9 (.string ⟨#[40, 41, 123, 125, 44, 59, 61, 60, 62, 43]⟩) (.int .i64 (i : Int))).run Tryz.prog W = .ok (.int .u8 (signB i)) W := by
  rw [idx_atu ⟨#[40, 41, 123, 125, 44, 59, 61, 60, 62, 43]⟩ i h rfl W]
  rcases (by omega : i = 0 ∨ i = 1 ∨ i = 2 ∨ i = 3 ∨ i = 4 ∨ i = 5 ∨ i = 6 ∨ i = 7 ∨ i = 8 ∨ i = 9) with rfl | rfl | rfl | rfl | rfl | rfl | rfl | rfl | rfl | rfl <;> rfl
end Ad
set_option maxRecDepth 100000 in
set_option maxHeartbeats 4000000 in
theorem refSign_any (s : ByteArray) (at_ : Nat) (w : World) (hs : s.size ≤ 1000000) (h0 : at_ < s.size) :
    Calls Tryz.prog 212 #[.string s, .int .i64 (at_ : Int)] w fun e w' => e = .returned (.string ⟨((s.data.toList.drop at_).take (Ad.signN (s.data.toList.drop at_))).toArray⟩) ∧ Below w.heap.size w w' := by
  obtain ⟨X, hX⟩ : ∃ X : ByteArray, X = ⟨((s.data.toList.drop at_).take (Ad.signN (s.data.toList.drop at_))).toArray⟩ := ⟨_, rfl⟩
  rw [← hX]
  have hd : s.data.toList.drop at_ = s[at_] :: s.data.toList.drop (at_ + 1) := by
    rw [List.drop_eq_getElem_cons (by simpa using h0)]; rfl
  have hX2 : ∀ n, Ad.signN (s.data.toList.drop at_) = n → X = s.extract at_ (at_ + n) := fun n hn => by
    rw [hX, hn, ← ext_mid s at_ n, bytes_back]
  rw [hd] at hX2
  have hi1 : ∀ W : World, (Instr.index 9 (.string s) (.int .i64 (at_ : Int))).run Tryz.prog W = .ok (.int .u8 (s[at_].toNat : Int)) W := fun W => idx_atu s at_ h0 rfl W
  have hc := s[at_].toNat_lt
  have H2 := Lib.hid (show Lib.hasPrefix (s.data.toList.drop (at_ + 1)) [61] = true → (s[at_].toNat = 61 ∨ s[at_].toNat = 33 ∨ s[at_].toNat = 60 ∨ s[at_].toNat = 62) → X = s.extract at_ (at_ + 2) from fun hq h => hX2 2 (Ad.sign_two hq h))
  have H1 := Lib.hid (show (Lib.hasPrefix (s.data.toList.drop (at_ + 1)) [61] = false ∨ ¬ (s[at_].toNat = 61 ∨ s[at_].toNat = 33 ∨ s[at_].toNat = 60 ∨ s[at_].toNat = 62)) → (∃ j : Nat, Ad.signs[j]? = some s[at_].toNat) → X = s.extract at_ (at_ + 1) from fun hq h => hX2 1 (Ad.sign_some hq h))
  have H0 := Lib.hid (show (Lib.hasPrefix (s.data.toList.drop (at_ + 1)) [61] = false ∨ ¬ (s[at_].toNat = 61 ∨ s[at_].toNat = 33 ∨ s[at_].toNat = 60 ∨ s[at_].toNat = 62)) → (∀ j, j < 10 → Ad.signs[j]? ≠ some s[at_].toNat) → X = ⟨#[]⟩ from fun hq h => by
    rw [hX2 0 (Ad.sign_none hq h)]
    apply ByteArray.ext
    simp [])
  clear hX hX2 hd
  generalize s[at_] = c0 at *
  generalize c0.toNat = c at *
  have hnext : (at_ + 1 < s.size ∧ ∃ d : UInt8, d.toNat = 61 ∧ (∀ W : World, (Instr.index 9 (.string s) (.int .i64 ((at_ : Int) + 1))).run Tryz.prog W = .ok (.int .u8 (d.toNat : Int)) W) ∧ Lib.hasPrefix (s.data.toList.drop (at_ + 1)) [61] = true) ∨ (at_ + 1 < s.size ∧ ∃ d : UInt8, d.toNat ≠ 61 ∧ (∀ W : World, (Instr.index 9 (.string s) (.int .i64 ((at_ : Int) + 1))).run Tryz.prog W = .ok (.int .u8 (d.toNat : Int)) W) ∧ Lib.hasPrefix (s.data.toList.drop (at_ + 1)) [61] = false) ∨ (s.size ≤ at_ + 1 ∧ Lib.hasPrefix (s.data.toList.drop (at_ + 1)) [61] = false) := by
    by_cases h : at_ + 1 < s.size
    · have hd2 : s.data.toList.drop (at_ + 1) = s[at_ + 1] :: s.data.toList.drop (at_ + 2) := by
        rw [List.drop_eq_getElem_cons (by simpa using h)]; rfl
      have hi2 : ∀ W : World, (Instr.index 9 (.string s) (.int .i64 ((at_ : Int) + 1))).run Tryz.prog W = .ok (.int .u8 (s[at_ + 1].toNat : Int)) W := fun W => idx_atu s (at_ + 1) h (by omega) W
      by_cases h61 : s[at_ + 1].toNat = 61
      · refine .inl ⟨h, _, h61, hi2, ?_⟩
        rw [Ad.prefix_one, hd2]
        simp only [beq_iff_eq]
        exact UInt8.toNat_inj.1 h61
      · refine .inr (.inl ⟨h, _, h61, hi2, ?_⟩)
        rw [Ad.prefix_one, hd2]
        simp only [beq_eq_false_iff_ne]
        exact fun he => h61 (by rw [he]; rfl)
    · refine .inr (.inr ⟨by omega, ?_⟩)
      rw [List.drop_eq_nil_of_le (by simp; omega)]
      rfl
  have hB : (at_ + 1 < s.size ∧ (∃ d : UInt8, d.toNat = 61 ∧ (∀ W : World, (Instr.index 9 (.string s) (.int .i64 ((at_ : Int) + 1))).run Tryz.prog W = .ok (.int .u8 (d.toNat : Int)) W)) ∧ (c = 61 ∨ c = 33 ∨ c = 60 ∨ c = 62) ∧ X = s.extract at_ (at_ + 2)) ∨
      (((∃ j : Nat, Ad.signs[j]? = some c) → X = s.extract at_ (at_ + 1)) ∧ ((∀ j, j < 10 → Ad.signs[j]? ≠ some c) → X = ⟨#[]⟩) ∧
      ((at_ + 1 < s.size ∧ (∃ d : UInt8, d.toNat = 61 ∧ (∀ W : World, (Instr.index 9 (.string s) (.int .i64 ((at_ : Int) + 1))).run Tryz.prog W = .ok (.int .u8 (d.toNat : Int)) W)) ∧ (c ≠ 61 ∧ c ≠ 33 ∧ c ≠ 60 ∧ c ≠ 62)) ∨
       (at_ + 1 < s.size ∧ ∃ d : UInt8, d.toNat ≠ 61 ∧ (∀ W : World, (Instr.index 9 (.string s) (.int .i64 ((at_ : Int) + 1))).run Tryz.prog W = .ok (.int .u8 (d.toNat : Int)) W)) ∨ s.size ≤ at_ + 1)) := by
    rcases hnext with ⟨h1, d, h2, h3, hq⟩ | ⟨h1, d, h2, h3, hq⟩ | ⟨h1, hq⟩
    · by_cases h4 : c = 61 ∨ c = 33 ∨ c = 60 ∨ c = 62
      · exact .inl ⟨h1, ⟨d, h2, h3⟩, h4, H2.out hq h4⟩
      · exact .inr ⟨H1.out (.inr h4), H0.out (.inr h4), .inl ⟨h1, ⟨d, h2, h3⟩, by omega⟩⟩
    · exact .inr ⟨H1.out (.inl hq), H0.out (.inl hq), .inr (.inl ⟨h1, d, h2, h3⟩)⟩
    · exact .inr ⟨H1.out (.inl hq), H0.out (.inl hq), .inr (.inr h1)⟩
  clear hnext H1 H2 H0
  rcases hB with ⟨hl1, ⟨d, hd, hi2⟩, h4, hX⟩ | ⟨hx1, hx0, h⟩
  · have HX := Lib.hid hX
    have q1 : ((d.toNat : Int) == 61) = true := by rw [hd]; rfl
    clear hX hd
    rcases h4 with rfl | rfl | rfl | rfl
    all_goals
      go_enter Tryz.func212, Tryz.ntmps212
      go_wp2_with fail
      go_ret
      rw [HX.out]
      exact ⟨rfl, Below.refl _ _⟩
  · have HE1 := Lib.hid hx1
    have HE0 := Lib.hid hx0
    clear hx1 hx0
    rcases h with ⟨hl1, ⟨d, hd, hi2⟩, h1, h2, h3, h4⟩ | ⟨hl1, d, hd, hi2⟩ | hl1
    · have q1 : ((d.toNat : Int) == 61) = true := by rw [hd]; rfl
      have r1 : ((c : Int) == 61) = false := by rw [beq_eq_false_iff_ne]; omega
      have r2 : ((c : Int) == 33) = false := by rw [beq_eq_false_iff_ne]; omega
      have r3 : ((c : Int) == 60) = false := by rw [beq_eq_false_iff_ne]; omega
      have r4 : ((c : Int) == 62) = false := by rw [beq_eq_false_iff_ne]; omega
      clear hd h1 h2 h3 h4
      go_enter Tryz.func212, Tryz.ntmps212
      go_wp2_with fail
      go_loopw [6] (fun x wr => ∃ i : Nat, x = .int .i64 i ∧ i ≤ 10 ∧ Below w.heap.size w wr ∧ RowKit.Hid (∀ j, j < i → Ad.signs[j]? ≠ some c)) (fun x _ => 10 - (intOf x).toNat)
      case atStart => exact ⟨0, rfl, by omega, Below.refl _ _, Lib.hid (fun j hj => absurd hj (by omega))⟩
      case round =>
        obtain ⟨i, rfl, hi, hbel, HI⟩ := hrel
        by_cases hlt : i < 10
        · have hi3 : ∀ W : World, (Instr.index 9 (.string ⟨#[40, 41, 123, 125, 44, 59, 61, 60, 62, 43]⟩) (.int .i64 (i : Int))).run Tryz.prog W = .ok (.int .u8 (Ad.signB i)) W := fun W => Ad.sign_at i hlt W
          have HB := Lib.hid (Ad.signB_eq i hlt)
          by_cases hca : Ad.signB i = (c : Int)
          · have q5 : (Ad.signB i == (c : Int)) = true := by rw [hca]; exact beq_self_eq_true _
            have HX := Lib.hid (HE1.out ⟨i, HB.out c hca⟩)
            generalize Ad.signB i = sb at *
            clear hca
            go_wp2_with fail
            go_region
            go_wp2_with fail
            go_ret
            rw [HX.out]
            exact ⟨rfl, hbel.drew⟩
          · have q5 : (Ad.signB i == (c : Int)) = false := by rw [beq_eq_false_iff_ne]; exact hca
            have HI2 := Lib.hid (show ∀ j, j < i + 1 → Ad.signs[j]? ≠ some c from fun j hj => by
              rcases Nat.lt_or_ge j i with h | h
              · exact HI.out j h
              · obtain rfl : j = i := by omega
                exact fun h2 => hca (Ad.signB_back j hlt c h2))
            generalize Ad.signB i = sb at *
            clear hca
            go_wp2_with fail
            go_region
            go_wp2_with fail
            go_roundw
            case rel => exact ⟨i + 1, by go_num, by omega, hbel.drew, HI2⟩
            case measure => simp [intOf]; omega
        · obtain rfl : i = 10 := by omega
          have HX := Lib.hid (HE0.out HI.out)
          go_wp2_with fail
          go_ret
          rw [HX.out]
          exact ⟨rfl, hbel⟩
    · have q1 : ((d.toNat : Int) == 61) = false := by rw [beq_eq_false_iff_ne]; omega
      clear hd
      go_enter Tryz.func212, Tryz.ntmps212
      go_wp2_with fail
      go_loopw [6] (fun x wr => ∃ i : Nat, x = .int .i64 i ∧ i ≤ 10 ∧ Below w.heap.size w wr ∧ RowKit.Hid (∀ j, j < i → Ad.signs[j]? ≠ some c)) (fun x _ => 10 - (intOf x).toNat)
      case atStart => exact ⟨0, rfl, by omega, Below.refl _ _, Lib.hid (fun j hj => absurd hj (by omega))⟩
      case round =>
        obtain ⟨i, rfl, hi, hbel, HI⟩ := hrel
        by_cases hlt : i < 10
        · have hi3 : ∀ W : World, (Instr.index 9 (.string ⟨#[40, 41, 123, 125, 44, 59, 61, 60, 62, 43]⟩) (.int .i64 (i : Int))).run Tryz.prog W = .ok (.int .u8 (Ad.signB i)) W := fun W => Ad.sign_at i hlt W
          have HB := Lib.hid (Ad.signB_eq i hlt)
          by_cases hca : Ad.signB i = (c : Int)
          · have q5 : (Ad.signB i == (c : Int)) = true := by rw [hca]; exact beq_self_eq_true _
            have HX := Lib.hid (HE1.out ⟨i, HB.out c hca⟩)
            generalize Ad.signB i = sb at *
            clear hca
            go_wp2_with fail
            go_region
            go_wp2_with fail
            go_ret
            rw [HX.out]
            exact ⟨rfl, hbel.drew⟩
          · have q5 : (Ad.signB i == (c : Int)) = false := by rw [beq_eq_false_iff_ne]; exact hca
            have HI2 := Lib.hid (show ∀ j, j < i + 1 → Ad.signs[j]? ≠ some c from fun j hj => by
              rcases Nat.lt_or_ge j i with h | h
              · exact HI.out j h
              · obtain rfl : j = i := by omega
                exact fun h2 => hca (Ad.signB_back j hlt c h2))
            generalize Ad.signB i = sb at *
            clear hca
            go_wp2_with fail
            go_region
            go_wp2_with fail
            go_roundw
            case rel => exact ⟨i + 1, by go_num, by omega, hbel.drew, HI2⟩
            case measure => simp [intOf]; omega
        · obtain rfl : i = 10 := by omega
          have HX := Lib.hid (HE0.out HI.out)
          go_wp2_with fail
          go_ret
          rw [HX.out]
          exact ⟨rfl, hbel⟩
    · have q1 : ¬ ((at_ : Int) + 1 < (s.size : Int)) := by omega
      go_enter Tryz.func212, Tryz.ntmps212
      go_wp2_with fail
      go_loopw [6] (fun x wr => ∃ i : Nat, x = .int .i64 i ∧ i ≤ 10 ∧ Below w.heap.size w wr ∧ RowKit.Hid (∀ j, j < i → Ad.signs[j]? ≠ some c)) (fun x _ => 10 - (intOf x).toNat)
      case atStart => exact ⟨0, rfl, by omega, Below.refl _ _, Lib.hid (fun j hj => absurd hj (by omega))⟩
      case round =>
        obtain ⟨i, rfl, hi, hbel, HI⟩ := hrel
        by_cases hlt : i < 10
        · have hi3 : ∀ W : World, (Instr.index 9 (.string ⟨#[40, 41, 123, 125, 44, 59, 61, 60, 62, 43]⟩) (.int .i64 (i : Int))).run Tryz.prog W = .ok (.int .u8 (Ad.signB i)) W := fun W => Ad.sign_at i hlt W
          have HB := Lib.hid (Ad.signB_eq i hlt)
          by_cases hca : Ad.signB i = (c : Int)
          · have q5 : (Ad.signB i == (c : Int)) = true := by rw [hca]; exact beq_self_eq_true _
            have HX := Lib.hid (HE1.out ⟨i, HB.out c hca⟩)
            generalize Ad.signB i = sb at *
            clear hca
            go_wp2_with fail
            go_region
            go_wp2_with fail
            go_ret
            rw [HX.out]
            exact ⟨rfl, hbel.drew⟩
          · have q5 : (Ad.signB i == (c : Int)) = false := by rw [beq_eq_false_iff_ne]; exact hca
            have HI2 := Lib.hid (show ∀ j, j < i + 1 → Ad.signs[j]? ≠ some c from fun j hj => by
              rcases Nat.lt_or_ge j i with h | h
              · exact HI.out j h
              · obtain rfl : j = i := by omega
                exact fun h2 => hca (Ad.signB_back j hlt c h2))
            generalize Ad.signB i = sb at *
            clear hca
            go_wp2_with fail
            go_region
            go_wp2_with fail
            go_roundw
            case rel => exact ⟨i + 1, by go_num, by omega, hbel.drew, HI2⟩
            case measure => simp [intOf]; omega
        · obtain rfl : i = 10 := by omega
          have HX := Lib.hid (HE0.out HI.out)
          go_wp2_with fail
          go_ret
          rw [HX.out]
          exact ⟨rfl, hbel⟩
end Go.Proofs.YtmabpnmnppfgaaaGreatDoor
