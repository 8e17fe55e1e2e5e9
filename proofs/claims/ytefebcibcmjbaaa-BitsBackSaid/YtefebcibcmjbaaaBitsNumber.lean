/- What bits.Number and the reference's Number return. -/
import Derived.Test.YtefebcibcmjbaaaBitsGet
namespace Go.Proofs.Ytefebcibcmjbaaa
set_option linter.unusedVariables false
open Go.RowKit
theorem head_at (s : ByteArray) (h : 0 < s.size) : s.data.toList.head? = some s[0] := by
  have : 0 < s.data.toList.length := by simpa using h
  rw [List.head?_eq_getElem?, List.getElem?_eq_getElem this]
  rfl
theorem pow_le10 {k : Nat} (h : k ≤ 9) : 10 ^ k ≤ 1000000000 := by
  have := Nat.pow_le_pow_right (n := 10) (by omega) h
  simpa using this
theorem not_all (s : ByteArray) (k : Nat) (h : k < s.size) (hd : P.digit s[k] = false) : P.numOk s.data.toList = false := by
  have hm : s[k] ∈ s.data.toList := by
    have : s[k] = s.data.toList[k]'(by simpa using h) := rfl
    rw [this]; exact List.getElem_mem _
  have : s.data.toList.all P.digit = false := by
    rw [Bool.eq_false_iff]
    intro h2
    have := List.all_eq_true.1 h2 _ hm
    rw [hd] at this; cases this
  simp [P.numOk, this]
set_option maxRecDepth 100000 in
set_option maxHeartbeats 1000000 in
theorem number_any (s : ByteArray) (w : World) (hs : s.size ≤ maxLen) :
    Calls Try.prog 18 #[.string s] w fun e w' => e = .returned (.tuple #[.int .i64 (P.numV s.data.toList), .int .i64 (P.numE s.data.toList)]) ∧ w = w' := by
  unfold maxLen at hs
  have bad : ∀ hb : P.numOk s.data.toList = false, P.numV s.data.toList = 0 ∧ P.numE s.data.toList = 11 := fun hb => ⟨by simp [P.numV, hb], by simp [P.numE, hb]⟩
  by_cases h0 : s.size = 0
  · obtain ⟨HV, HE⟩ := bad (by simp [P.numOk, h0])
    rw [HV, HE]
    have he : s.toList = [] := by rw [ByteArray.toList_eq]; exact List.eq_nil_of_length_eq_zero (by simpa using h0)
    have he2 : s.toList.isEmpty = true := by rw [he]; rfl
    have he := Lib.hid he
    clear HV HE bad
    go_enter Try.func18, Try.ntmps18
    go_wp2
    go_ret2
    exact ⟨rfl, rfl⟩
  · have he2 : s.toList.isEmpty = false := by
      rw [ByteArray.toList_eq, Bool.eq_false_iff, ne_eq, List.isEmpty_iff]
      intro h; apply h0; have := congrArg List.length h; simpa using this
    by_cases h1 : 10 < s.size
    · obtain ⟨HV, HE⟩ := bad (by simp [P.numOk]; intro _ h _; omega)
      rw [HV, HE]
      clear HV HE bad
      go_enter Try.func18, Try.ntmps18
      go_wp2
      go_ret2
      exact ⟨rfl, rfl⟩
    · have hb0 : s[0].toNat < 256 := s[0].toNat_lt
      by_cases h2 : 1 < s.size ∧ s[0].toNat = 48
      · obtain ⟨h2, h3⟩ := h2
        have hz : s[0] = 48 := UInt8.toNat_inj.1 h3
        obtain ⟨HV, HE⟩ := bad (by simp [P.numOk, head_at s (by omega), hz]; intro _ _ h; omega)
        rw [HV, HE]
        have ht : ((s[0].toNat : Int) == 48) = true := by rw [beq_iff_eq]; omega
        clear HV HE bad hz h3
        go_enter Try.func18, Try.ntmps18
        go_wp2
        go_ret2
        exact ⟨rfl, rfl⟩
      · have fin : Calls Try.prog 18 #[.string s] w fun e w' => e = .returned (.tuple #[.int .i64 (P.numV s.data.toList), .int .i64 (P.numE s.data.toList)]) ∧ w = w' := by
          have Hok := Lib.hid (show P.numOk s.data.toList = (s.data.toList.all P.digit && decide (P.numN s.data.toList ≤ 2147483647)) from by
            unfold P.numOk
            rw [decide_eq_true (p := 1 ≤ s.data.toList.length ∧ s.data.toList.length ≤ 10 ∧ ¬ (1 < s.data.toList.length ∧ s.data.toList.head? = some 48)), Bool.true_and]
            refine ⟨by simp; omega, by simp; omega, ?_⟩
            rintro ⟨ha, hb⟩
            rw [head_at s (by omega)] at hb
            exact h2 ⟨by simpa using ha, by rw [Option.some.inj hb]; rfl⟩)
          have Bad := Lib.hid bad
          clear bad
          have main : ∀ _ : (s.size ≤ 1 ∨ (1 < s.size ∧ ((s[0].toNat : Int) == 48) = false)), Calls Try.prog 18 #[.string s] w fun e w' => e = .returned (.tuple #[.int .i64 (P.numV s.data.toList), .int .i64 (P.numE s.data.toList)]) ∧ w = w' := by
            intro hcase
            have H2 := Lib.hid h2
            rcases hcase with h5 | ⟨h5, h6⟩
            all_goals
              go_enter Try.func18, Try.ntmps18
              go_wp2
              go_loop [4, 25] (fun x i => ∃ k : Nat, k ≤ s.size ∧ i = .int .i64 k ∧ ∃ m : Nat, m = P.numN (s.data.toList.take k) ∧ x = .int .i64 m ∧ ∀ b ∈ s.data.toList.take k, P.digit b = true) (fun _ i => s.size - (intOf i).toNat)
              case atStart => exact ⟨0, by omega, rfl, 0, by simp [P.numN], rfl, by simp⟩
              case round =>
                obtain ⟨k, hk, rfl, m, hm, rfl, hall⟩ := hrel
                have hlt0 := P.numN_lt (s.data.toList.take k) hall
                rw [← hm, List.length_take, Nat.min_eq_left (by simpa using hk)] at hlt0
                have Hm := Lib.hid hm
                have Hall := Lib.hid hall
                clear hm hall
                by_cases hlt : k < s.size
                · have hp := pow_le10 (k := k) (by omega)
                  have hm2 : m < 1000000000 := by omega
                  have hb : s[k].toNat < 256 := s[k].toNat_lt
                  have hsn := take_snoc s k hlt
                  have Hn := Lib.hid (show P.numN (s.data.toList.take (k + 1)) = 10 * m + (s[k].toNat - 48) from by rw [hsn, P.numN_snoc, ← Hm.out])
                  have Hsn := Lib.hid hsn
                  clear hsn hp hlt0
                  by_cases hd : 48 ≤ s[k].toNat ∧ s[k].toNat ≤ 57
                  · have Hd := Lib.hid (show P.digit s[k] = true from decide_eq_true hd)
                    obtain ⟨hd1, hd2⟩ := hd
                    go_wp2
                    go_round
                    case rel => exact ⟨k + 1, by omega, by go_num, _, Hn.out.symm, by go_num, by
                      rw [Hsn.out]
                      intro b hb
                      rcases List.mem_append.1 hb with h | h
                      · exact Hall.out b h
                      · rw [List.mem_singleton.1 h]; exact Hd.out⟩
                    case measure => simp [intOf]; omega
                  · obtain ⟨hv, he9⟩ := Bad.out (not_all s k hlt (decide_eq_false hd))
                    have HV := Lib.hid hv
                    have HE := Lib.hid he9
                    clear hv he9
                    rcases (by omega : s[k].toNat < 48 ∨ (48 ≤ s[k].toNat ∧ 57 < s[k].toNat)) with hd1 | ⟨hd1, hd2⟩
                    · clear hd
                      go_wp2
                      go_ret2
                      rw [HV.out, HE.out]
                      exact ⟨rfl, rfl⟩
                    · clear hd
                      go_wp2
                      go_ret2
                      rw [HV.out, HE.out]
                      exact ⟨rfl, rfl⟩
                · clear hlt0
                  have ht : s.data.toList.take k = s.data.toList := List.take_of_length_le (by simp; omega)
                  have Hall2 := Hall.out
                  have Hm2 := Hm.out
                  rw [ht] at Hall2 Hm2
                  have ha : s.data.toList.all P.digit = true := List.all_eq_true.2 Hall2
                  by_cases hbig : m ≤ 2147483647
                  · have hok : P.numOk s.data.toList = true := by rw [Hok.out, ha, ← Hm2]; simpa using hbig
                    have HV := Lib.hid (show P.numV s.data.toList = m from by simp [P.numV, hok, ← Hm2])
                    have HE := Lib.hid (show P.numE s.data.toList = 0 from by simp [P.numE, hok])
                    clear ht ha hok Hall2 Hm2
                    go_wp2
                    go_ret2
                    rw [HV.out, HE.out]
                    exact ⟨rfl, rfl⟩
                  · have hok : P.numOk s.data.toList = false := by rw [Hok.out, ha, ← Hm2]; simpa using hbig
                    obtain ⟨hv, he9⟩ := Bad.out hok
                    have HV := Lib.hid hv
                    have HE := Lib.hid he9
                    clear hv he9
                    clear ht ha hok Hall2 Hm2
                    go_wp2
                    go_ret2
                    rw [HV.out, HE.out]
                    exact ⟨rfl, rfl⟩
          exact main (by
            rcases Nat.lt_or_ge 1 s.size with h | h
            · exact .inr ⟨h, beq_eq_false_iff_ne.2 (by intro e; exact h2 ⟨h, by omega⟩)⟩
            · exact .inl h)
        exact fin
set_option maxRecDepth 100000 in
set_option maxHeartbeats 1000000 in
theorem refNumber_any (s : ByteArray) (w : World) (hs : s.size ≤ maxLen) :
    Calls Try.prog 19 #[.string s] w fun e w' => e = .returned (.tuple #[.int .i64 (P.numV s.data.toList), .int .i64 (P.numE s.data.toList)]) ∧ w = w' := by
  unfold maxLen at hs
  have bad : ∀ hb : P.numOk s.data.toList = false, P.numV s.data.toList = 0 ∧ P.numE s.data.toList = 11 := fun hb => ⟨by simp [P.numV, hb], by simp [P.numE, hb]⟩
  by_cases h0 : s.size = 0
  · obtain ⟨HV, HE⟩ := bad (by simp [P.numOk, h0])
    rw [HV, HE]
    have h0 := Nat.le_of_eq h0
    clear HV HE bad
    go_enter Try.func19, Try.ntmps19
    go_wp2
    go_ret2
    exact ⟨rfl, rfl⟩
  · have h0' : 1 ≤ s.size := by omega
    by_cases h1 : 10 < s.size
    · obtain ⟨HV, HE⟩ := bad (by simp [P.numOk]; intro _ h _; omega)
      rw [HV, HE]
      clear HV HE bad
      go_enter Try.func19, Try.ntmps19
      go_wp2
      go_ret2
      exact ⟨rfl, rfl⟩
    · have hb0 : s[0].toNat < 256 := s[0].toNat_lt
      by_cases h2 : 1 < s.size ∧ s[0].toNat = 48
      · obtain ⟨h2, h3⟩ := h2
        have hz : s[0] = 48 := UInt8.toNat_inj.1 h3
        obtain ⟨HV, HE⟩ := bad (by simp [P.numOk, head_at s (by omega), hz]; intro _ _ h; omega)
        rw [HV, HE]
        have ht : ((s[0].toNat : Int) == 48) = true := by rw [beq_iff_eq]; omega
        clear HV HE bad hz h3
        go_enter Try.func19, Try.ntmps19
        go_wp2
        go_ret2
        exact ⟨rfl, rfl⟩
      · have fin : Calls Try.prog 19 #[.string s] w fun e w' => e = .returned (.tuple #[.int .i64 (P.numV s.data.toList), .int .i64 (P.numE s.data.toList)]) ∧ w = w' := by
          have Hok := Lib.hid (show P.numOk s.data.toList = (s.data.toList.all P.digit && decide (P.numN s.data.toList ≤ 2147483647)) from by
            unfold P.numOk
            rw [decide_eq_true (p := 1 ≤ s.data.toList.length ∧ s.data.toList.length ≤ 10 ∧ ¬ (1 < s.data.toList.length ∧ s.data.toList.head? = some 48)), Bool.true_and]
            refine ⟨by simp; omega, by simp; omega, ?_⟩
            rintro ⟨ha, hb⟩
            rw [head_at s (by omega)] at hb
            exact h2 ⟨by simpa using ha, by rw [Option.some.inj hb]; rfl⟩)
          have Bad := Lib.hid bad
          clear bad
          have main : ∀ _ : ((s.size ≤ 1 ∧ ((s[0].toNat : Int) == 48) = true) ∨ (s.size ≤ 1 ∧ ((s[0].toNat : Int) == 48) = false) ∨ (1 < s.size ∧ ((s[0].toNat : Int) == 48) = false)), Calls Try.prog 19 #[.string s] w fun e w' => e = .returned (.tuple #[.int .i64 (P.numV s.data.toList), .int .i64 (P.numE s.data.toList)]) ∧ w = w' := by
            intro hcase
            have H2 := Lib.hid h2
            rcases hcase with ⟨h5, h6⟩ | ⟨h5, h6⟩ | ⟨h5, h6⟩
            all_goals
              go_enter Try.func19, Try.ntmps19
              go_wp2
              go_loop [4, 5] (fun x i => ∃ k : Nat, k ≤ s.size ∧ i = .int .i64 k ∧ ∃ m : Nat, m = P.numN (s.data.toList.take k) ∧ x = .int .i64 m ∧ ∀ b ∈ s.data.toList.take k, P.digit b = true) (fun _ i => s.size - (intOf i).toNat)
              case atStart => exact ⟨0, by omega, rfl, 0, by simp [P.numN], rfl, by simp⟩
              case round =>
                obtain ⟨k, hk, rfl, m, hm, rfl, hall⟩ := hrel
                have hlt0 := P.numN_lt (s.data.toList.take k) hall
                rw [← hm, List.length_take, Nat.min_eq_left (by simpa using hk)] at hlt0
                have Hm := Lib.hid hm
                have Hall := Lib.hid hall
                clear hm hall
                by_cases hlt : k < s.size
                · have hp := pow_le10 (k := k) (by omega)
                  have hm2 : m < 1000000000 := by omega
                  have hb : s[k].toNat < 256 := s[k].toNat_lt
                  have hsn := take_snoc s k hlt
                  have Hn := Lib.hid (show P.numN (s.data.toList.take (k + 1)) = 10 * m + (s[k].toNat - 48) from by rw [hsn, P.numN_snoc, ← Hm.out])
                  have Hsn := Lib.hid hsn
                  clear hsn hp hlt0
                  by_cases hd : 48 ≤ s[k].toNat ∧ s[k].toNat ≤ 57
                  · have Hd := Lib.hid (show P.digit s[k] = true from decide_eq_true hd)
                    obtain ⟨hd1, hd2⟩ := hd
                    go_wp2
                    go_round
                    case rel => exact ⟨k + 1, by omega, by go_num, _, Hn.out.symm, by go_num, by
                      rw [Hsn.out]
                      intro b hb
                      rcases List.mem_append.1 hb with h | h
                      · exact Hall.out b h
                      · rw [List.mem_singleton.1 h]; exact Hd.out⟩
                    case measure => simp [intOf]; omega
                  · obtain ⟨hv, he9⟩ := Bad.out (not_all s k hlt (decide_eq_false hd))
                    have HV := Lib.hid hv
                    have HE := Lib.hid he9
                    clear hv he9
                    rcases (by omega : s[k].toNat < 48 ∨ (48 ≤ s[k].toNat ∧ 57 < s[k].toNat)) with hd1 | ⟨hd1, hd2⟩
                    · clear hd
                      go_wp2
                      go_ret2
                      rw [HV.out, HE.out]
                      exact ⟨rfl, rfl⟩
                    · clear hd
                      go_wp2
                      go_ret2
                      rw [HV.out, HE.out]
                      exact ⟨rfl, rfl⟩
                · clear hlt0
                  have ht : s.data.toList.take k = s.data.toList := List.take_of_length_le (by simp; omega)
                  have Hall2 := Hall.out
                  have Hm2 := Hm.out
                  rw [ht] at Hall2 Hm2
                  have ha : s.data.toList.all P.digit = true := List.all_eq_true.2 Hall2
                  by_cases hbig : m ≤ 2147483647
                  · have hok : P.numOk s.data.toList = true := by rw [Hok.out, ha, ← Hm2]; simpa using hbig
                    have HV := Lib.hid (show P.numV s.data.toList = m from by simp [P.numV, hok, ← Hm2])
                    have HE := Lib.hid (show P.numE s.data.toList = 0 from by simp [P.numE, hok])
                    clear ht ha hok Hall2 Hm2
                    go_wp2
                    go_ret2
                    rw [HV.out, HE.out]
                    exact ⟨rfl, rfl⟩
                  · have hok : P.numOk s.data.toList = false := by rw [Hok.out, ha, ← Hm2]; simpa using hbig
                    obtain ⟨hv, he9⟩ := Bad.out hok
                    have HV := Lib.hid hv
                    have HE := Lib.hid he9
                    clear hv he9
                    clear ht ha hok Hall2 Hm2
                    go_wp2
                    go_ret2
                    rw [HV.out, HE.out]
                    exact ⟨rfl, rfl⟩
          exact main (by
            rcases Nat.lt_or_ge 1 s.size with h | h
            · exact .inr (.inr ⟨h, beq_eq_false_iff_ne.2 (by intro e; exact h2 ⟨h, by omega⟩)⟩)
            · by_cases h9 : ((s[0].toNat : Int) == 48) = true
              · exact .inl ⟨h, h9⟩
              · exact .inr (.inl ⟨h, by simpa using h9⟩))
        exact fin
end Go.Proofs.Ytefebcibcmjbaaa
