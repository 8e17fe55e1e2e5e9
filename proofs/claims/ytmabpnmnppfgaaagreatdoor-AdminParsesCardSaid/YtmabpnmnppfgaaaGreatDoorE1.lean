/- Part E1 of the proof: the statement that is proved stands in the text that ends with its name. No conditions beyond the card's. -/
import Derived.Test.YtmabpnmnppfgaaaGreatDoorA2
namespace Go.Proofs.YtmabpnmnppfgaaaGreatDoor
set_option linter.unusedVariables false
open Go Go.RowKit
set_option maxRecDepth 100000 in
set_option maxHeartbeats 1000000 in
theorem refNumber_any (s : ByteArray) (w : World) (hs : s.size ≤ maxLen) :
    Calls Tryz.prog 209 #[.string s] w fun e w' => e = .returned (.tuple #[.int .i64 (P.numV s.data.toList), .int .i64 (P.numE s.data.toList)]) ∧ w = w' := by
  unfold maxLen at hs
  have bad : ∀ hb : P.numOk s.data.toList = false, P.numV s.data.toList = 0 ∧ P.numE s.data.toList = 11 := fun hb => ⟨by simp [P.numV, hb], by simp [P.numE, hb]⟩
  by_cases h0 : s.size = 0
  · obtain ⟨HV, HE⟩ := bad (by simp [P.numOk, h0])
    rw [HV, HE]
    have h0 := Nat.le_of_eq h0
    clear HV HE bad
    go_enter Tryz.func209, Tryz.ntmps209
    go_wp2
    go_ret2
    exact ⟨rfl, rfl⟩
  · have h0' : 1 ≤ s.size := by omega
    by_cases h1 : 10 < s.size
    · obtain ⟨HV, HE⟩ := bad (by simp [P.numOk]; intro _ h _; omega)
      rw [HV, HE]
      clear HV HE bad
      go_enter Tryz.func209, Tryz.ntmps209
      go_wp2
      go_ret2
      exact ⟨rfl, rfl⟩
    · have hb0 : s[0].toNat < 256 := s[0].toNat_lt
      by_cases h2 : 1 < s.size ∧ s[0].toNat = 48
      · obtain ⟨h2, h3⟩ := h2
        have hz : s[0] = 48 := UInt8.toNat_inj.1 h3
        obtain ⟨HV, HE⟩ := bad (by simp [P.numOk, head_at s (by omega), hz]; intro _ _ h; omega)
        rw [HV, HE]
        have ht : ((s[0].toNat : Int) == 48) = true := by rw [beq_iff_eq]; omega
        clear HV HE bad hz h3
        go_enter Tryz.func209, Tryz.ntmps209
        go_wp2
        go_ret2
        exact ⟨rfl, rfl⟩
      · have fin : Calls Tryz.prog 209 #[.string s] w fun e w' => e = .returned (.tuple #[.int .i64 (P.numV s.data.toList), .int .i64 (P.numE s.data.toList)]) ∧ w = w' := by
          have Hok := Lib.hid (show P.numOk s.data.toList = (s.data.toList.all P.digit && decide (P.numN s.data.toList ≤ 2147483647)) from by
            unfold P.numOk
            rw [decide_eq_true (p := 1 ≤ s.data.toList.length ∧ s.data.toList.length ≤ 10 ∧ ¬ (1 < s.data.toList.length ∧ s.data.toList.head? = some 48)), Bool.true_and]
            refine ⟨by simp; omega, by simp; omega, ?_⟩
            rintro ⟨ha, hb⟩
            rw [head_at s (by omega)] at hb
            exact h2 ⟨by simpa using ha, by rw [Option.some.inj hb]; rfl⟩)
          have Bad := Lib.hid bad
          clear bad
          have main : ∀ _ : ((s.size ≤ 1 ∧ ((s[0].toNat : Int) == 48) = true) ∨ (s.size ≤ 1 ∧ ((s[0].toNat : Int) == 48) = false) ∨ (1 < s.size ∧ ((s[0].toNat : Int) == 48) = false)), Calls Tryz.prog 209 #[.string s] w fun e w' => e = .returned (.tuple #[.int .i64 (P.numV s.data.toList), .int .i64 (P.numE s.data.toList)]) ∧ w = w' := by
            intro hcase
            have H2 := Lib.hid h2
            rcases hcase with ⟨h5, h6⟩ | ⟨h5, h6⟩ | ⟨h5, h6⟩
            all_goals
              go_enter Tryz.func209, Tryz.ntmps209
              go_wp2
              go_loop [4, 5] (fun x i => ∃ k : Nat, k ≤ s.size ∧ i = .int .i64 k ∧ ∃ m : Nat, m = P.numN (s.data.toList.take k) ∧ x = .int .i64 m ∧ ∀ b ∈ s.data.toList.take k, P.digit b = true) (fun _ i => s.size - (intOf i).toNat)
              case atStart => exact ⟨0, by omega, rfl, 0, by simp [P.numN], rfl, by simp⟩
              case round =>
                obtain ⟨k, hk, rfl, m, hm, rfl, hall⟩ := hrel
                have hlt0 := P.numN_lt (s.data.toList.take k) hall
                rw [← hm, List.length_take, Nat.min_eq_left (by simpa using hk)] at hlt0
                have Hm := Lib.hid hm
                have Hall := Lib.hid hall
                clear hm hall
                by_cases hlt : k < s.size
                · have hp := pow_le10 (k := k) (by omega)
                  have hm2 : m < 1000000000 := by omega
                  have hb : s[k].toNat < 256 := s[k].toNat_lt
                  have hsn := take_snoc s k hlt
                  have Hn := Lib.hid (show P.numN (s.data.toList.take (k + 1)) = 10 * m + (s[k].toNat - 48) from by rw [hsn, P.numN_snoc, ← Hm.out])
                  have Hsn := Lib.hid hsn
                  clear hsn hp hlt0
                  by_cases hd : 48 ≤ s[k].toNat ∧ s[k].toNat ≤ 57
                  · have Hd := Lib.hid (show P.digit s[k] = true from decide_eq_true hd)
                    obtain ⟨hd1, hd2⟩ := hd
                    go_wp2
                    go_round
                    case rel => exact ⟨k + 1, by omega, by go_num, _, Hn.out.symm, by go_num, by
                      rw [Hsn.out]
                      intro b hb
                      rcases List.mem_append.1 hb with h | h
                      · exact Hall.out b h
                      · rw [List.mem_singleton.1 h]; exact Hd.out⟩
                    case measure => simp [intOf]; omega
                  · obtain ⟨hv, he9⟩ := Bad.out (not_all s k hlt (decide_eq_false hd))
                    have HV := Lib.hid hv
                    have HE := Lib.hid he9
                    clear hv he9
                    rcases (by omega : s[k].toNat < 48 ∨ (48 ≤ s[k].toNat ∧ 57 < s[k].toNat)) with hd1 | ⟨hd1, hd2⟩
                    · clear hd
                      go_wp2
                      go_ret2
                      rw [HV.out, HE.out]
                      exact ⟨rfl, rfl⟩
                    · clear hd
                      go_wp2
                      go_ret2
                      rw [HV.out, HE.out]
                      exact ⟨rfl, rfl⟩
                · clear hlt0
                  have ht : s.data.toList.take k = s.data.toList := List.take_of_length_le (by simp; omega)
                  have Hall2 := Hall.out
                  have Hm2 := Hm.out
                  rw [ht] at Hall2 Hm2
                  have ha : s.data.toList.all P.digit = true := List.all_eq_true.2 Hall2
                  by_cases hbig : m ≤ 2147483647
                  · have hok : P.numOk s.data.toList = true := by rw [Hok.out, ha, ← Hm2]; simpa using hbig
                    have HV := Lib.hid (show P.numV s.data.toList = m from by simp [P.numV, hok, ← Hm2])
                    have HE := Lib.hid (show P.numE s.data.toList = 0 from by simp [P.numE, hok])
                    clear ht ha hok Hall2 Hm2
                    go_wp2
                    go_ret2
                    rw [HV.out, HE.out]
                    exact ⟨rfl, rfl⟩
                  · have hok : P.numOk s.data.toList = false := by rw [Hok.out, ha, ← Hm2]; simpa using hbig
                    obtain ⟨hv, he9⟩ := Bad.out hok
                    have HV := Lib.hid hv
                    have HE := Lib.hid he9
                    clear hv he9
                    clear ht ha hok Hall2 Hm2
                    go_wp2
                    go_ret2
                    rw [HV.out, HE.out]
                    exact ⟨rfl, rfl⟩
          exact main (by
            rcases Nat.lt_or_ge 1 s.size with h | h
            · exact .inr (.inr ⟨h, beq_eq_false_iff_ne.2 (by intro e; exact h2 ⟨h, by omega⟩)⟩)
            · by_cases h9 : ((s[0].toNat : Int) == 48) = true
              · exact .inl ⟨h, h9⟩
              · exact .inr (.inl ⟨h, by simpa using h9⟩))
        exact fin
end Go.Proofs.YtmabpnmnppfgaaaGreatDoor
namespace Go.Proofs.YtmabpnmnppfgaaaGreatDoor
set_option linter.unusedVariables false
open Go Go.RowKit
set_option maxRecDepth 100000 in
set_option maxHeartbeats 400000 in
theorem refHex_any (s : ByteArray) (w : World) (hs : s.size ≤ 140737488351232) :
    Calls Tryz.prog 140 #[.string s] w fun e w' => e = .returned (.string ⟨(P.hex s.data.toList).toArray⟩) ∧ Below w.heap.size w w' := by
  have hmk : ∀ W : World, (Instr.makeSlice 163 (.int .i64 0) (.int .i64 (2 * (s.size : Int)))).run Tryz.prog W = .ok (.slice (some ⟨W.heap.size, 0, none⟩) 0 (2 * s.size)) (W.alloc (.cells (cellsU8 (List.replicate (2 * s.size) 0)) 5)) := fun W => by
    have := make_bytes .i64 .i64 0 (2 * s.size) (by omega) (by omega) W
    rw [show (((2 * s.size : Nat)) : Int) = 2 * (s.size : Int) from by omega] at this
    exact this
  have Hown := Lib.hid (OwnB.made w (2 * s.size) (by unfold maxLen; omega))
  go_enter Tryz.func140, Tryz.ntmps140
  go_wp2_with fail
  go_loopw [3, 4] (fun v x wr => ∃ k : Nat, k ≤ s.size ∧ x = .int .i64 k ∧ v = .slice (some ⟨w.heap.size, 0, none⟩) (P.hex (s.data.toList.take k)).length (2 * s.size) ∧ OwnB wr w.heap.size v (P.hex (s.data.toList.take k)) ∧ Below w.heap.size w wr) (fun _ x _ => s.size - (intOf x).toNat)
  case atStart => exact ⟨0, by omega, rfl, rfl, Hown.out, (Below.refl _ _).alloc (Nat.le_refl _) _⟩
  case round =>
    obtain ⟨k, hk, rfl, rfl, hown, hbel⟩ := hrel
    by_cases hlt : k < s.size
    · have hb : s[k].toNat < 256 := s[k].toNat_lt
      have hw1 : IntKind.u8.wrap ((s[k].toNat : Int) / 16) = (s[k].toNat : Int) / 16 := by rw [IntKind.wrap_u8']; omega
      have hw2 : ((s[k].toNat : Int)).tmod 16 = (s[k].toNat : Int) % 16 := Int.tmod_eq_emod_of_nonneg (by omega)
      have hi1 : ∀ W : World, _ := fun W => index_hex W (s[k].toNat / 16) (by omega)
      rw [show ((s[k].toNat / 16 : Nat) : Int) = (s[k].toNat : Int) / 16 from by omega] at hi1
      have hi2 : ∀ W : World, _ := fun W => index_hex W (s[k].toNat % 16) (by omega)
      rw [show ((s[k].toNat % 16 : Nat) : Int) = (s[k].toNat : Int) % 16 from by omega] at hi2
      have hsn := take_snoc s k hlt
      have HS := Lib.hid (show P.hex (s.data.toList.take (k + 1)) = P.hex (s.data.toList.take k) ++ P.hexB s[k] from by rw [hsn, P.hex_snoc])
      clear hsn
      have hl := P.hex_length (s.data.toList.take k)
      rw [List.length_take, Nat.min_eq_left (by simpa using hk)] at hl
      have HL := Lib.hid hl
      clear hl
      generalize P.hex (s.data.toList.take k) = l at *
      go_wp2_with fail
      go_region_law (refine step_append_bytes_fits rfl (.tmp 15) (.tmp 26) rfl w.heap.size w.heap.size (2 * s.size) l (by simp [Act.eval]) (hown.drew.alloc _) ⟨wr.heap.size, 0, none⟩ 2 2 (P.hexB s[k]) (by simp [Act.eval]) rfl (newsU8 wr 5 (P.hexB s[k])) (by have := HL.out; omega) (by have := hbel.size; simp; omega) ?_; intro w2 hown2 hbel2)
      all_goals
        have Hb2 := Lib.hid (show Below w.heap.size w w2 from (hbel.drew.alloc (by have := hbel.size; simpa using this) _).trans hbel2)
        clear hbel2
        go_wp2
        go_roundw
        case rel => exact ⟨k + 1, by omega, by go_num, by rw [HS.out]; simp, by rw [HS.out]; simpa using hown2, Hb2.out⟩
        case measure => simp [intOf]; omega
    · have hkn : k = s.size := by omega
      subst hkn
      have HT := Lib.hid (show P.hex (s.data.toList.take s.size) = P.hex s.data.toList from by rw [List.take_of_length_le (by simp)])
      generalize P.hex (s.data.toList.take s.size) = l at *
      have hst := hown.string
      clear hown
      go_wp2
      go_ret
      rw [← HT.out]
      exact ⟨rfl, hbel⟩
end Go.Proofs.YtmabpnmnppfgaaaGreatDoor
namespace Go.Proofs.YtmabpnmnppfgaaaGreatDoor
set_option linter.unusedVariables false
open Go.RowKit
theorem newDigit (W : World) (m : Nat) : ∀ v : Int, v = 48 + (m : Int) % 10 → OwnB (W.alloc (.cells #[.int .u8 v] 5)) W.heap.size (.slice (some ⟨W.heap.size, 0, none⟩) 1 1) [UInt8.ofNat (48 + m % 10)] := by
  intro v hv
  have h := OwnB.lit W [UInt8.ofNat (48 + m % 10)] (by simp [maxLen])
  have e : (((UInt8.ofNat (48 + m % 10)).toNat : Nat) : Int) = v := by
    have h : 48 + m % 10 < 256 := by omega
    rw [hv]
    simp [Nat.mod_eq_of_lt h]
  unfold cellsU8 at h
  simp only [List.map_cons, List.map_nil, e, List.length_singleton] at h
  exact h
set_option maxRecDepth 100000 in
set_option maxHeartbeats 1000000 in
theorem refDigits_any (v : Int) (w : World) (ha : -9223372036854775808 ≤ v) (ha' : v ≤ 9223372036854775807) :
    Calls Tryz.prog 31 #[.int .i64 v] w fun e w' => e = .returned (.string ⟨(P.digits v).toArray⟩) ∧ Below w.heap.size w w' := by
  by_cases hz : v = 0
  · subst hz
    go_enter Tryz.func31, Tryz.ntmps31
    go_wp2
    go_ret
    exact ⟨rfl, Below.refl _ _⟩
  have hz0 : (v == 0) = false := beq_eq_false_iff_ne.2 hz
  by_cases hneg : v < 0
  · obtain ⟨n, hn⟩ : ∃ n : Nat, v = -(n : Int) := ⟨v.natAbs, by omega⟩
    subst hn
    have hn1 : 1 ≤ n := by omega
    have hd0 : decide (0 < n) = true := by simp; omega
    have hres : P.digits (-(n : Int)) = 45 :: P.digitsN 20 n := by simp [P.digits, (by omega : 0 < n)]
    have hN := P.digitsN_length 20 n 19 (by omega) (by omega)
    rw [hres]
    clear hres hz
    go_enter Tryz.func31, Tryz.ntmps31
    go_wp2
    go_loopw [3, 4] (fun b x wr => ∃ m : Nat, ∃ acc : List UInt8, x = .int .i64 (-(m : Int)) ∧ m ≤ n ∧ ((m = 0 ∧ acc = P.digitsN 20 n) ∨ (m ≠ 0 ∧ ∃ f, m < 10 ^ f ∧ P.digitsN f m ++ acc = P.digitsN 20 n)) ∧ OwnB wr w.heap.size b acc ∧ Below w.heap.size w wr) (fun _ x _ => (intOf x).natAbs)
    case atStart => exact ⟨n, [], rfl, by omega, .inr ⟨by omega, 20, by omega, by simp⟩, OwnB.nil _ _, Below.refl _ _⟩
    case round =>
      obtain ⟨m, acc, rfl, hmn, hdis, hown, hbel⟩ := hrel
      have Hdis := Lib.hid hdis
      clear hdis
      by_cases hm : m = 0
      · have hacc : acc = P.digitsN 20 n := by
          rcases Hdis.out with ⟨_, h⟩ | ⟨h, _⟩
          · exact h
          · exact absurd hm h
        have Hacc := Lib.hid hacc
        have hlen : acc.length ≤ 19 := by rw [hacc]; exact hN
        have ht : (-(m : Int) != 0) = false := by simp [hm]
        clear hacc
        have hm2 : m ≤ 0 := by omega
        clear hm
        have Hlit := Lib.hid (show OwnB (wr.alloc (.cells #[.int .u8 45] 5)) wr.heap.size (.slice (some ⟨wr.heap.size, 0, none⟩) 1 1) [45] from OwnB.lit wr [45] (by simp [maxLen]))
        go_wp2_with (at_builtin; refine wpList_append_both rfl (.tmp 27) (.tmp 28) rfl wr.heap.size (.slice (some ⟨wr.heap.size, 0, none⟩) 1 1) [45] rfl Hlit.out w.heap.size _ acc rfl (hown.alloc _) (by simp; omega) (by simp) ?_; intro v3 w3 hown3 hbel3; have hst := hown3.string)
        go_ret
        rw [← Hacc.out]
        exact ⟨rfl, (hbel.alloc hbel.size _).trans (hbel3.mono hbel.size)⟩
      · have ht : (-(m : Int) != 0) = true := by rw [bne_iff_ne]; omega
        obtain ⟨f, hf, hdig⟩ : ∃ f, m < 10 ^ f ∧ P.digitsN f m ++ acc = P.digitsN 20 n := by
          rcases Hdis.out with ⟨h, _⟩ | ⟨_, h⟩
          · exact absurd h hm
          · exact h
        obtain ⟨f', rfl⟩ : ∃ k, f = k + 1 := by
          rcases f with _ | f
          · simp at hf; omega
          · exact ⟨f, rfl⟩
        have Hnext := Lib.hid (show (m / 10 = 0 ∧ UInt8.ofNat (48 + m % 10) :: acc = P.digitsN 20 n) ∨ (m / 10 ≠ 0 ∧ ∃ f, m / 10 < 10 ^ f ∧ P.digitsN f (m / 10) ++ UInt8.ofNat (48 + m % 10) :: acc = P.digitsN 20 n) from by
          by_cases h0 : m / 10 = 0
          · refine .inl ⟨h0, ?_⟩
            rw [← hdig]; simp [P.digitsN, h0]
          · refine .inr ⟨h0, f', ?_, ?_⟩
            · rw [Nat.div_lt_iff_lt_mul (by omega), ← Nat.pow_succ]; exact hf
            · rw [← hdig]; simp [P.digitsN, h0])
        have hlen : acc.length ≤ 19 := by
          have := congrArg List.length hdig
          simp at this
          omega
        clear hdig hf
        have Hnd := Lib.hid (fun W : World => newDigit W m)
        have hq : (-(m : Int)).tdiv 10 = -((m / 10 : Nat) : Int) := by rw [Int.neg_tdiv, Int.tdiv_eq_ediv_of_nonneg (by omega)]; rfl
        have hr : (-(m : Int)).tmod 10 = -((m : Int) % 10) := by rw [Int.neg_tmod, Int.tmod_eq_emod_of_nonneg (by omega)]
        go_wp2_with (at_builtin; refine wpList_append_both rfl (.tmp 22) (.tmp 23) rfl wr.heap.size (.slice (some ⟨wr.heap.size, 0, none⟩) 1 1) [UInt8.ofNat (48 + m % 10)] rfl (Hnd.out wr _ (by first | rfl | omega)) w.heap.size _ acc rfl (hown.alloc _) (by simp; omega) (by simp) ?_; intro v3 w3 hown3 hbel3)
        all_goals
          have Hb3 := Lib.hid (show Below w.heap.size w w3 from (hbel.alloc hbel.size _).trans (hbel3.mono hbel.size))
          have Ho3 := Lib.hid (show OwnB w3 w.heap.size v3 (UInt8.ofNat (48 + m % 10) :: acc) from hown3.less hbel.size)
          clear hbel3 hown3
          go_wp2
          go_roundw
          case rel => exact ⟨m / 10, _, by first | rfl | (congr 1; omega), by omega, Hnext.out, Ho3.out, Hb3.out⟩
          case measure => simp [intOf]; omega
  · obtain ⟨n, rfl⟩ := Int.eq_ofNat_of_zero_le (by omega : 0 ≤ v)
    have hn1 : 1 ≤ n := by omega
    have hres : P.digits (n : Int) = P.digitsN 20 n := by simp [P.digits]
    have hN := P.digitsN_length 20 n 19 (by omega) (by omega)
    rw [hres]
    clear hres hz
    go_enter Tryz.func31, Tryz.ntmps31
    go_wp2
    go_loopw [3, 4] (fun b x wr => ∃ m : Nat, ∃ acc : List UInt8, x = .int .i64 ((m : Int)) ∧ m ≤ n ∧ ((m = 0 ∧ acc = P.digitsN 20 n) ∨ (m ≠ 0 ∧ ∃ f, m < 10 ^ f ∧ P.digitsN f m ++ acc = P.digitsN 20 n)) ∧ OwnB wr w.heap.size b acc ∧ Below w.heap.size w wr) (fun _ x _ => (intOf x).natAbs)
    case atStart => exact ⟨n, [], rfl, by omega, .inr ⟨by omega, 20, by omega, by simp⟩, OwnB.nil _ _, Below.refl _ _⟩
    case round =>
      obtain ⟨m, acc, rfl, hmn, hdis, hown, hbel⟩ := hrel
      have Hdis := Lib.hid hdis
      clear hdis
      by_cases hm : m = 0
      · have hacc : acc = P.digitsN 20 n := by
          rcases Hdis.out with ⟨_, h⟩ | ⟨h, _⟩
          · exact h
          · exact absurd hm h
        have Hacc := Lib.hid hacc
        have hlen : acc.length ≤ 19 := by rw [hacc]; exact hN
        have ht : ((m : Int) != 0) = false := by simp [hm]
        clear hacc
        have hm2 : m ≤ 0 := by omega
        clear hm
        have hst := hown.string
        go_wp2
        go_ret
        rw [← Hacc.out]
        exact ⟨rfl, hbel⟩
      · have ht : ((m : Int) != 0) = true := by rw [bne_iff_ne]; omega
        obtain ⟨f, hf, hdig⟩ : ∃ f, m < 10 ^ f ∧ P.digitsN f m ++ acc = P.digitsN 20 n := by
          rcases Hdis.out with ⟨h, _⟩ | ⟨_, h⟩
          · exact absurd h hm
          · exact h
        obtain ⟨f', rfl⟩ : ∃ k, f = k + 1 := by
          rcases f with _ | f
          · simp at hf; omega
          · exact ⟨f, rfl⟩
        have Hnext := Lib.hid (show (m / 10 = 0 ∧ UInt8.ofNat (48 + m % 10) :: acc = P.digitsN 20 n) ∨ (m / 10 ≠ 0 ∧ ∃ f, m / 10 < 10 ^ f ∧ P.digitsN f (m / 10) ++ UInt8.ofNat (48 + m % 10) :: acc = P.digitsN 20 n) from by
          by_cases h0 : m / 10 = 0
          · refine .inl ⟨h0, ?_⟩
            rw [← hdig]; simp [P.digitsN, h0]
          · refine .inr ⟨h0, f', ?_, ?_⟩
            · rw [Nat.div_lt_iff_lt_mul (by omega), ← Nat.pow_succ]; exact hf
            · rw [← hdig]; simp [P.digitsN, h0])
        have hlen : acc.length ≤ 19 := by
          have := congrArg List.length hdig
          simp at this
          omega
        clear hdig hf
        have Hnd := Lib.hid (fun W : World => newDigit W m)
        go_wp2_with (at_builtin; refine wpList_append_both rfl (.tmp 22) (.tmp 23) rfl wr.heap.size (.slice (some ⟨wr.heap.size, 0, none⟩) 1 1) [UInt8.ofNat (48 + m % 10)] rfl (Hnd.out wr _ (by first | rfl | omega)) w.heap.size _ acc rfl (hown.alloc _) (by simp; omega) (by simp) ?_; intro v3 w3 hown3 hbel3)
        have Hb3 := Lib.hid (show Below w.heap.size w w3 from (hbel.alloc hbel.size _).trans (hbel3.mono hbel.size))
        have Ho3 := Lib.hid (show OwnB w3 w.heap.size v3 (UInt8.ofNat (48 + m % 10) :: acc) from hown3.less hbel.size)
        clear hbel3 hown3
        go_wp2
        go_roundw
        case rel => exact ⟨m / 10, _, by first | go_num | (congr 1; omega), by omega, Hnext.out, Ho3.out, Hb3.out⟩
        case measure => simp [intOf]; omega
end Go.Proofs.YtmabpnmnppfgaaaGreatDoor
namespace Go.Proofs.YtmabpnmnppfgaaaGreatDoor
set_option linter.unusedVariables false
open Go Go.RowKit
set_option maxRecDepth 100000 in
set_option maxHeartbeats 400000 in
theorem refLetter_any (c : UInt8) (w : World) :
    Calls Tryz.prog 206 #[.int .u8 (c.toNat : Int)] w fun e w' => e = .returned (.bool (Ad.letter c)) ∧ w' = w := by
  have hb := c.toNat_lt
  have hn : Ad.letter c = decide (97 ≤ c.toNat ∧ c.toNat ≤ 122 ∨ 65 ≤ c.toNat ∧ c.toNat ≤ 90) := rfl
  generalize Ad.letter c = r at *
  generalize c.toNat = n at *
  rcases (by omega : n < 65 ∨ (65 ≤ n ∧ n ≤ 90) ∨ (90 < n ∧ n < 97) ∨ (97 ≤ n ∧ n ≤ 122) ∨ 122 < n) with h | ⟨h, h'⟩ | ⟨h, h'⟩ | ⟨h, h'⟩ | h <;>
  (have HR := Lib.hid hn
   clear hn
   go_enter Tryz.func206, Tryz.ntmps206
   go_wp2
   go_ret
   refine ⟨?_, rfl⟩
   have h2 := HR.out
   first | rw [decide_eq_true (by omega)] at h2 | rw [decide_eq_false (by omega)] at h2
   rw [h2]
   first | rfl | (refine congrArg (fun b => Ending.returned (Value.bool b)) ?_; simp; omega))
set_option maxRecDepth 100000 in
set_option maxHeartbeats 400000 in
theorem refDigitB_any (c : UInt8) (w : World) :
    Calls Tryz.prog 208 #[.int .u8 (c.toNat : Int)] w fun e w' => e = .returned (.bool (Ad.digit c)) ∧ w' = w := by
  have hb := c.toNat_lt
  have hn : Ad.digit c = decide (48 ≤ c.toNat ∧ c.toNat ≤ 57) := rfl
  generalize Ad.digit c = r at *
  generalize c.toNat = n at *
  rcases (by omega : n < 48 ∨ (48 ≤ n ∧ n ≤ 57) ∨ 57 < n) with h | ⟨h, h'⟩ | h <;>
  (have HR := Lib.hid hn
   clear hn
   go_enter Tryz.func208, Tryz.ntmps208
   go_wp2
   go_ret
   refine ⟨?_, rfl⟩
   have h2 := HR.out
   first | rw [decide_eq_true (by omega)] at h2 | rw [decide_eq_false (by omega)] at h2
   rw [h2]
   first | rfl | (refine congrArg (fun b => Ending.returned (Value.bool b)) ?_; simp; omega))
namespace Ad
def pathD (c : UInt8) : Bool := letter c || digit c || decide (c.toNat = 91) || decide (c.toNat = 93) || decide (c.toNat = 45) || decide (c.toNat = 46)
set_option maxRecDepth 100000 in
theorem pathC_eq (c : UInt8) : pathC c = pathD c := by
  have : ∀ n : Fin 256, pathC (UInt8.ofNat n.val) = pathD (UInt8.ofNat n.val) := by decide
  have h := this ⟨c.toNat, by exact c.toNat_lt⟩
  simpa using h
def SortN (n : Int) (p : UInt8 → Bool) : Prop := (n = 1 ∧ p = nameC) ∨ (n = 2 ∧ p = digit) ∨ (n = 4 ∧ p = pathC)
end Ad
set_option maxRecDepth 100000 in
set_option maxHeartbeats 4000000 in
theorem refRun_any (s : ByteArray) (at_ : Nat) (n : Int) (p : UInt8 → Bool) (hn : Ad.SortN n p) (w : World) (hs : s.size ≤ 1000000) (hat : at_ ≤ s.size) :
    Calls Tryz.prog 207 #[.string s, .int .i64 (at_ : Int), .int .i64 n] w fun e w' => e = .returned (.int .i64 (Ad.run p (s.data.toList.drop at_) : Nat)) ∧ w' = w := by
  have hle : Ad.run p (s.data.toList.drop at_) ≤ s.size := by have := Ad.run_le p (s.data.toList.drop at_); rw [List.length_drop] at this; simp at this; omega
  have HLE := Lib.hid hle
  clear hle
  have HN := Lib.hid hn
  go_enter Tryz.func207, Tryz.ntmps207
  go_wp2_with fail
  go_loopw [7] (fun v wr => ∃ i : Nat, v = .int .i64 i ∧ at_ ≤ i ∧ i ≤ s.size ∧ wr = w ∧ RowKit.Hid (∀ j, j < i - at_ → ∃ c, (s.data.toList.drop at_)[j]? = some c ∧ p c = true)) (fun v _ => s.size - (intOf v).toNat)
  case atStart => exact ⟨at_, rfl, Nat.le_refl _, hat, rfl, Lib.hid (fun j hj => absurd hj (by omega))⟩
  case round =>
    obtain ⟨i, rfl, hai, hk, rfl, HALL⟩ := hrel
    have HStop := Lib.hid (show (∀ c, (s.data.toList.drop at_)[i - at_]? = some c → p c = false) → Ad.run p (s.data.toList.drop at_) = i - at_ from fun h => by
      have h1 := Ad.run_drop p (s.data.toList.drop at_) (i - at_) HALL.out
      cases hc : (s.data.toList.drop at_)[i - at_]? with
      | none =>
        rw [List.drop_eq_nil_of_le (List.getElem?_eq_none_iff.1 hc)] at h1
        exact h1
      | some c =>
        rw [Ad.run_stop p (l := (s.data.toList.drop at_).drop (i - at_)) (c := c) (by rw [List.getElem?_drop]; exact hc) (h c hc)] at h1
        exact h1)
    by_cases hlt : i < s.size
    · have hget : (s.data.toList.drop at_)[i - at_]? = some s[i] := by
        rw [List.getElem?_drop, show at_ + (i - at_) = i by omega, List.getElem?_eq_getElem (by simpa using hlt)]
        rfl
      have HG := Lib.hid hget
      clear hget
      have hi1 : ∀ W : World, (Instr.index 9 (.string s) (.int .i64 (i : Int))).run Tryz.prog W = .ok (.int .u8 (s[i].toNat : Int)) W := fun W => idx_atu s i hlt rfl W
      have K1 := Lib.hid (refLetter_any s[i] wr)
      have K2 := Lib.hid (refDigitB_any s[i] wr)
      have HS2 := Lib.hid (show p s[i] = false → Ad.run p (s.data.toList.drop at_) = i - at_ from fun h => HStop.out fun c hc => by
        rw [HG.out] at hc
        cases hc
        exact h)
      have HALL2 := Lib.hid (show p s[i] = true → ∀ j, j < i + 1 - at_ → ∃ c, (s.data.toList.drop at_)[j]? = some c ∧ p c = true from fun h j hj => by
        rcases Nat.lt_or_ge j (i - at_) with h2 | h2
        · exact HALL.out j h2
        · obtain rfl : j = i - at_ := by omega
          exact ⟨_, HG.out, h⟩)
      have hb := s[i].toNat_lt
      clear HALL HG HStop
      generalize s[i] = c at *
      rcases HN.out with ⟨rfl, rfl⟩ | ⟨rfl, rfl⟩ | ⟨rfl, rfl⟩
      · rw [show Ad.nameC c = (Ad.letter c || Ad.digit c || decide (c.toNat = 95)) from rfl] at HS2 HALL2
        generalize Ad.letter c = r1 at *
        generalize Ad.digit c = r2 at *
        obtain ⟨b, hb95⟩ : ∃ b, ((c.toNat : Int) == 95) = b := ⟨_, rfl⟩
        have hd : decide (c.toNat = 95) = b := by
          rw [← hb95]
          by_cases h : c.toNat = 95
          · rw [h]; rfl
          · rw [decide_eq_false h, eq_comm, beq_eq_false_iff_ne]; omega
        rw [hd] at HS2 HALL2
        clear hd HN
        cases r1 <;> cases r2 <;> cases b
        all_goals
          go_wp2_with (first | (go_at_call 206; refine K1.out.mono ?_; rintro e w' ⟨rfl, rfl⟩) | (go_at_call 208; refine K2.out.mono ?_; rintro e w' ⟨rfl, rfl⟩))
          first
          | (go_roundw
             case rel => exact ⟨i + 1, by go_num, by omega, by omega, by trivial, Lib.hid (HALL2.out (by first | rfl | trivial))⟩
             case measure => simp [intOf]; omega)
          | (go_ret
             refine ⟨?_, rfl⟩
             rw [HS2.out (by first | rfl | trivial)]
             go_num)
      · clear HN
        generalize Ad.letter c = r1 at *
        generalize Ad.digit c = r2 at *
        cases r1 <;> cases r2
        all_goals
          go_wp2_with (first | (go_at_call 206; refine K1.out.mono ?_; rintro e w' ⟨rfl, rfl⟩) | (go_at_call 208; refine K2.out.mono ?_; rintro e w' ⟨rfl, rfl⟩))
          first
          | (go_roundw
             case rel => exact ⟨i + 1, by go_num, by omega, by omega, by trivial, Lib.hid (HALL2.out (by first | rfl | trivial))⟩
             case measure => simp [intOf]; omega)
          | (go_ret
             refine ⟨?_, rfl⟩
             rw [HS2.out (by first | rfl | trivial)]
             go_num)
      · rw [Ad.pathC_eq c, show Ad.pathD c = (Ad.letter c || Ad.digit c || decide (c.toNat = 91) || decide (c.toNat = 93) || decide (c.toNat = 45) || decide (c.toNat = 46)) from rfl] at HS2 HALL2
        obtain ⟨b1, q1⟩ : ∃ b, ((c.toNat : Int) == 91) = b := ⟨_, rfl⟩
        obtain ⟨b2, q2⟩ : ∃ b, ((c.toNat : Int) == 93) = b := ⟨_, rfl⟩
        obtain ⟨b3, q3⟩ : ∃ b, ((c.toNat : Int) == 45) = b := ⟨_, rfl⟩
        obtain ⟨b4, q4⟩ : ∃ b, ((c.toNat : Int) == 46) = b := ⟨_, rfl⟩
        have hd : ∀ (k : Nat) (b : Bool), ((c.toNat : Int) == (k : Int)) = b → decide (c.toNat = k) = b := fun k b hb => by
          rw [← hb]
          by_cases h : c.toNat = k
          · rw [h]; simp
          · rw [decide_eq_false h, eq_comm, beq_eq_false_iff_ne]; omega
        rw [hd 91 b1 q1, hd 93 b2 q2, hd 45 b3 q3, hd 46 b4 q4] at HS2 HALL2
        clear hd HN
        generalize Ad.letter c = r1 at *
        generalize Ad.digit c = r2 at *
        cases r1 with
        | true =>
          go_wp2_with (first | (go_at_call 206; refine K1.out.mono ?_; rintro e w' ⟨rfl, rfl⟩) | (go_at_call 208; refine K2.out.mono ?_; rintro e w' ⟨rfl, rfl⟩))
          first
          | (go_roundw
             case rel => exact ⟨i + 1, by go_num, by omega, by omega, by trivial, Lib.hid (HALL2.out (by first | rfl | trivial))⟩
             case measure => simp [intOf]; omega)
          | (go_ret
             refine ⟨?_, rfl⟩
             rw [HS2.out (by first | rfl | trivial)]
             go_num)
        | false =>
          cases r2 with
          | true =>
            go_wp2_with (first | (go_at_call 206; refine K1.out.mono ?_; rintro e w' ⟨rfl, rfl⟩) | (go_at_call 208; refine K2.out.mono ?_; rintro e w' ⟨rfl, rfl⟩))
            first
            | (go_roundw
               case rel => exact ⟨i + 1, by go_num, by omega, by omega, by trivial, Lib.hid (HALL2.out (by first | rfl | trivial))⟩
               case measure => simp [intOf]; omega)
            | (go_ret
               refine ⟨?_, rfl⟩
               rw [HS2.out (by first | rfl | trivial)]
               go_num)
          | false =>
            cases b1 with
            | true =>
              go_wp2_with (first | (go_at_call 206; refine K1.out.mono ?_; rintro e w' ⟨rfl, rfl⟩) | (go_at_call 208; refine K2.out.mono ?_; rintro e w' ⟨rfl, rfl⟩))
              first
              | (go_roundw
                 case rel => exact ⟨i + 1, by go_num, by omega, by omega, by trivial, Lib.hid (HALL2.out (by first | rfl | trivial))⟩
                 case measure => simp [intOf]; omega)
              | (go_ret
                 refine ⟨?_, rfl⟩
                 rw [HS2.out (by first | rfl | trivial)]
                 go_num)
            | false =>
              cases b2 with
              | true =>
                go_wp2_with (first | (go_at_call 206; refine K1.out.mono ?_; rintro e w' ⟨rfl, rfl⟩) | (go_at_call 208; refine K2.out.mono ?_; rintro e w' ⟨rfl, rfl⟩))
                first
                | (go_roundw
                   case rel => exact ⟨i + 1, by go_num, by omega, by omega, by trivial, Lib.hid (HALL2.out (by first | rfl | trivial))⟩
                   case measure => simp [intOf]; omega)
                | (go_ret
                   refine ⟨?_, rfl⟩
                   rw [HS2.out (by first | rfl | trivial)]
                   go_num)
              | false =>
                cases b3 with
                | true =>
                  go_wp2_with (first | (go_at_call 206; refine K1.out.mono ?_; rintro e w' ⟨rfl, rfl⟩) | (go_at_call 208; refine K2.out.mono ?_; rintro e w' ⟨rfl, rfl⟩))
                  first
                  | (go_roundw
                     case rel => exact ⟨i + 1, by go_num, by omega, by omega, by trivial, Lib.hid (HALL2.out (by first | rfl | trivial))⟩
                     case measure => simp [intOf]; omega)
                  | (go_ret
                     refine ⟨?_, rfl⟩
                     rw [HS2.out (by first | rfl | trivial)]
                     go_num)
                | false =>
                  cases b4
                  all_goals
                    go_wp2_with (first | (go_at_call 206; refine K1.out.mono ?_; rintro e w' ⟨rfl, rfl⟩) | (go_at_call 208; refine K2.out.mono ?_; rintro e w' ⟨rfl, rfl⟩))
                    first
                    | (go_roundw
                       case rel => exact ⟨i + 1, by go_num, by omega, by omega, by trivial, Lib.hid (HALL2.out (by first | rfl | trivial))⟩
                       case measure => simp [intOf]; omega)
                    | (go_ret
                       refine ⟨?_, rfl⟩
                       rw [HS2.out (by first | rfl | trivial)]
                       go_num)
    · clear HN
      have HS2 := Lib.hid (HStop.out fun c hc => by
        rw [List.getElem?_drop, List.getElem?_eq_none (by simp; omega)] at hc
        cases hc)
      go_wp2_with fail
      go_ret
      refine ⟨?_, rfl⟩
      rw [HS2.out]
      go_num
end Go.Proofs.YtmabpnmnppfgaaaGreatDoor
