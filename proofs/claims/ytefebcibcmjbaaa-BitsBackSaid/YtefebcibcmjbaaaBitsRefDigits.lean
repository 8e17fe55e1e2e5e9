/- What the reference's Digits returns: the same digits as the plain function. -/
import Derived.Test.YtefebcibcmjbaaaOwn
import Derived.Test.YtefebcibcmjbaaaPlainBits
namespace Go.Proofs.Ytefebcibcmjbaaa
set_option linter.unusedVariables false
open Go.RowKit
theorem newDigit (W : World) (m : Nat) : ∀ v : Int, v = 48 + (m : Int) % 10 → OwnB (W.alloc (.cells #[.int .u8 v] 5)) W.heap.size (.slice (some ⟨W.heap.size, 0, none⟩) 1 1) [UInt8.ofNat (48 + m % 10)] := by
  intro v hv
  have h := OwnB.lit W [UInt8.ofNat (48 + m % 10)] (by simp [maxLen])
  have e : (((UInt8.ofNat (48 + m % 10)).toNat : Nat) : Int) = v := by
    have h : 48 + m % 10 < 256 := by omega
    rw [hv]
    simp [Nat.mod_eq_of_lt h]
  unfold cellsU8 at h
  simp only [List.map_cons, List.map_nil, e, List.length_singleton] at h
  exact h
set_option maxRecDepth 100000 in
set_option maxHeartbeats 1000000 in
theorem refDigits_any (v : Int) (w : World) (ha : -9223372036854775808 ≤ v) (ha' : v ≤ 9223372036854775807) :
    Calls Try.prog 21 #[.int .i64 v] w fun e w' => e = .returned (.string ⟨(P.digits v).toArray⟩) ∧ Below w.heap.size w w' := by
  by_cases hz : v = 0
  · subst hz
    go_enter Try.func21, Try.ntmps21
    go_wp2
    go_ret
    exact ⟨rfl, Below.refl _ _⟩
  have hz0 : (v == 0) = false := beq_eq_false_iff_ne.2 hz
  by_cases hneg : v < 0
  · obtain ⟨n, hn⟩ : ∃ n : Nat, v = -(n : Int) := ⟨v.natAbs, by omega⟩
    subst hn
    have hn1 : 1 ≤ n := by omega
    have hd0 : decide (0 < n) = true := by simp; omega
    have hres : P.digits (-(n : Int)) = 45 :: P.digitsN 20 n := by simp [P.digits, (by omega : 0 < n)]
    have hN := P.digitsN_length 20 n 19 (by omega) (by omega)
    rw [hres]
    clear hres hz
    go_enter Try.func21, Try.ntmps21
    go_wp2
    go_loopw [3, 4] (fun b x wr => ∃ m : Nat, ∃ acc : List UInt8, x = .int .i64 (-(m : Int)) ∧ m ≤ n ∧ ((m = 0 ∧ acc = P.digitsN 20 n) ∨ (m ≠ 0 ∧ ∃ f, m < 10 ^ f ∧ P.digitsN f m ++ acc = P.digitsN 20 n)) ∧ OwnB wr w.heap.size b acc ∧ Below w.heap.size w wr) (fun _ x _ => (intOf x).natAbs)
    case atStart => exact ⟨n, [], rfl, by omega, .inr ⟨by omega, 20, by omega, by simp⟩, OwnB.nil _ _, Below.refl _ _⟩
    case round =>
      obtain ⟨m, acc, rfl, hmn, hdis, hown, hbel⟩ := hrel
      have Hdis := Lib.hid hdis
      clear hdis
      by_cases hm : m = 0
      · have hacc : acc = P.digitsN 20 n := by
          rcases Hdis.out with ⟨_, h⟩ | ⟨h, _⟩
          · exact h
          · exact absurd hm h
        have Hacc := Lib.hid hacc
        have hlen : acc.length ≤ 19 := by rw [hacc]; exact hN
        have ht : (-(m : Int) != 0) = false := by simp [hm]
        clear hacc
        have hm2 : m ≤ 0 := by omega
        clear hm
        have Hlit := Lib.hid (show OwnB (wr.alloc (.cells #[.int .u8 45] 5)) wr.heap.size (.slice (some ⟨wr.heap.size, 0, none⟩) 1 1) [45] from OwnB.lit wr [45] (by simp [maxLen]))
        go_wp2_with (at_builtin; refine wpList_append_both rfl (.tmp 27) (.tmp 28) rfl wr.heap.size (.slice (some ⟨wr.heap.size, 0, none⟩) 1 1) [45] rfl Hlit.out w.heap.size _ acc rfl (hown.alloc _) (by simp; omega) (by simp) ?_; intro v3 w3 hown3 hbel3; have hst := hown3.string)
        go_ret
        rw [← Hacc.out]
        exact ⟨rfl, (hbel.alloc hbel.size _).trans (hbel3.mono hbel.size)⟩
      · have ht : (-(m : Int) != 0) = true := by rw [bne_iff_ne]; omega
        obtain ⟨f, hf, hdig⟩ : ∃ f, m < 10 ^ f ∧ P.digitsN f m ++ acc = P.digitsN 20 n := by
          rcases Hdis.out with ⟨h, _⟩ | ⟨_, h⟩
          · exact absurd h hm
          · exact h
        obtain ⟨f', rfl⟩ : ∃ k, f = k + 1 := by
          rcases f with _ | f
          · simp at hf; omega
          · exact ⟨f, rfl⟩
        have Hnext := Lib.hid (show (m / 10 = 0 ∧ UInt8.ofNat (48 + m % 10) :: acc = P.digitsN 20 n) ∨ (m / 10 ≠ 0 ∧ ∃ f, m / 10 < 10 ^ f ∧ P.digitsN f (m / 10) ++ UInt8.ofNat (48 + m % 10) :: acc = P.digitsN 20 n) from by
          by_cases h0 : m / 10 = 0
          · refine .inl ⟨h0, ?_⟩
            rw [← hdig]; simp [P.digitsN, h0]
          · refine .inr ⟨h0, f', ?_, ?_⟩
            · rw [Nat.div_lt_iff_lt_mul (by omega), ← Nat.pow_succ]; exact hf
            · rw [← hdig]; simp [P.digitsN, h0])
        have hlen : acc.length ≤ 19 := by
          have := congrArg List.length hdig
          simp at this
          omega
        clear hdig hf
        have Hnd := Lib.hid (fun W : World => newDigit W m)
        have hq : (-(m : Int)).tdiv 10 = -((m / 10 : Nat) : Int) := by rw [Int.neg_tdiv, Int.tdiv_eq_ediv_of_nonneg (by omega)]; rfl
        have hr : (-(m : Int)).tmod 10 = -((m : Int) % 10) := by rw [Int.neg_tmod, Int.tmod_eq_emod_of_nonneg (by omega)]
        go_wp2_with (at_builtin; refine wpList_append_both rfl (.tmp 22) (.tmp 23) rfl wr.heap.size (.slice (some ⟨wr.heap.size, 0, none⟩) 1 1) [UInt8.ofNat (48 + m % 10)] rfl (Hnd.out wr _ (by first | rfl | omega)) w.heap.size _ acc rfl (hown.alloc _) (by simp; omega) (by simp) ?_; intro v3 w3 hown3 hbel3)
        all_goals
          have Hb3 := Lib.hid (show Below w.heap.size w w3 from (hbel.alloc hbel.size _).trans (hbel3.mono hbel.size))
          have Ho3 := Lib.hid (show OwnB w3 w.heap.size v3 (UInt8.ofNat (48 + m % 10) :: acc) from hown3.less hbel.size)
          clear hbel3 hown3
          go_wp2
          go_roundw
          case rel => exact ⟨m / 10, _, by first | rfl | (congr 1; omega), by omega, Hnext.out, Ho3.out, Hb3.out⟩
          case measure => simp [intOf]; omega
  · obtain ⟨n, rfl⟩ := Int.eq_ofNat_of_zero_le (by omega : 0 ≤ v)
    have hn1 : 1 ≤ n := by omega
    have hres : P.digits (n : Int) = P.digitsN 20 n := by simp [P.digits]
    have hN := P.digitsN_length 20 n 19 (by omega) (by omega)
    rw [hres]
    clear hres hz
    go_enter Try.func21, Try.ntmps21
    go_wp2
    go_loopw [3, 4] (fun b x wr => ∃ m : Nat, ∃ acc : List UInt8, x = .int .i64 ((m : Int)) ∧ m ≤ n ∧ ((m = 0 ∧ acc = P.digitsN 20 n) ∨ (m ≠ 0 ∧ ∃ f, m < 10 ^ f ∧ P.digitsN f m ++ acc = P.digitsN 20 n)) ∧ OwnB wr w.heap.size b acc ∧ Below w.heap.size w wr) (fun _ x _ => (intOf x).natAbs)
    case atStart => exact ⟨n, [], rfl, by omega, .inr ⟨by omega, 20, by omega, by simp⟩, OwnB.nil _ _, Below.refl _ _⟩
    case round =>
      obtain ⟨m, acc, rfl, hmn, hdis, hown, hbel⟩ := hrel
      have Hdis := Lib.hid hdis
      clear hdis
      by_cases hm : m = 0
      · have hacc : acc = P.digitsN 20 n := by
          rcases Hdis.out with ⟨_, h⟩ | ⟨h, _⟩
          · exact h
          · exact absurd hm h
        have Hacc := Lib.hid hacc
        have hlen : acc.length ≤ 19 := by rw [hacc]; exact hN
        have ht : ((m : Int) != 0) = false := by simp [hm]
        clear hacc
        have hm2 : m ≤ 0 := by omega
        clear hm
        have hst := hown.string
        go_wp2
        go_ret
        rw [← Hacc.out]
        exact ⟨rfl, hbel⟩
      · have ht : ((m : Int) != 0) = true := by rw [bne_iff_ne]; omega
        obtain ⟨f, hf, hdig⟩ : ∃ f, m < 10 ^ f ∧ P.digitsN f m ++ acc = P.digitsN 20 n := by
          rcases Hdis.out with ⟨h, _⟩ | ⟨_, h⟩
          · exact absurd h hm
          · exact h
        obtain ⟨f', rfl⟩ : ∃ k, f = k + 1 := by
          rcases f with _ | f
          · simp at hf; omega
          · exact ⟨f, rfl⟩
        have Hnext := Lib.hid (show (m / 10 = 0 ∧ UInt8.ofNat (48 + m % 10) :: acc = P.digitsN 20 n) ∨ (m / 10 ≠ 0 ∧ ∃ f, m / 10 < 10 ^ f ∧ P.digitsN f (m / 10) ++ UInt8.ofNat (48 + m % 10) :: acc = P.digitsN 20 n) from by
          by_cases h0 : m / 10 = 0
          · refine .inl ⟨h0, ?_⟩
            rw [← hdig]; simp [P.digitsN, h0]
          · refine .inr ⟨h0, f', ?_, ?_⟩
            · rw [Nat.div_lt_iff_lt_mul (by omega), ← Nat.pow_succ]; exact hf
            · rw [← hdig]; simp [P.digitsN, h0])
        have hlen : acc.length ≤ 19 := by
          have := congrArg List.length hdig
          simp at this
          omega
        clear hdig hf
        have Hnd := Lib.hid (fun W : World => newDigit W m)
        go_wp2_with (at_builtin; refine wpList_append_both rfl (.tmp 22) (.tmp 23) rfl wr.heap.size (.slice (some ⟨wr.heap.size, 0, none⟩) 1 1) [UInt8.ofNat (48 + m % 10)] rfl (Hnd.out wr _ (by first | rfl | omega)) w.heap.size _ acc rfl (hown.alloc _) (by simp; omega) (by simp) ?_; intro v3 w3 hown3 hbel3)
        have Hb3 := Lib.hid (show Below w.heap.size w w3 from (hbel.alloc hbel.size _).trans (hbel3.mono hbel.size))
        have Ho3 := Lib.hid (show OwnB w3 w.heap.size v3 (UInt8.ofNat (48 + m % 10) :: acc) from hown3.less hbel.size)
        clear hbel3 hown3
        go_wp2
        go_roundw
        case rel => exact ⟨m / 10, _, by first | go_num | (congr 1; omega), by omega, Hnext.out, Ho3.out, Hb3.out⟩
        case measure => simp [intOf]; omega
end Go.Proofs.Ytefebcibcmjbaaa
