/- BitsBack: the walk: what is written is read as it was. -/
import Derived.Test.YtefebcibcmjbaaaBitsLaws
import Derived.Test.YtefebcibcmjbaaaPlainBack
namespace Go.Proofs.Ytefebcibcmjbaaa
set_option linter.unusedVariables false
open Go.RowKit Go.BigFrame
set_option maxRecDepth 100000 in
set_option maxHeartbeats 1000000 in
theorem bitsBack_any (v n : Int) (b : ByteArray) (w : World) (hv : -9223372036854775808 ≤ v) (hv2 : v ≤ 9223372036854775807) (hn : -9223372036854775808 ≤ n) (hn2 : n ≤ 9223372036854775807) (hb : b.size ≤ 140737488351232) :
    Calls Try.prog 9 #[.int .i64 v, .int .i64 n, .string b] w fun e w' => e = .returned (.bool true) ∧ Below w.heap.size w w' := by
  have pc := fun W => put_any v n W hv hv2 hn hn2
  have hx := fun W => hex_any b W hb
  have ux := fun W => unhex_any ⟨(P.hex b.data.toList).toArray⟩ W (by show (P.hex b.data.toList).toArray.size ≤ _; rw [List.size_toArray, P.hex_length]; simp; omega)
  have e1 : P.unhexS (P.hex b.data.toList) = b.data.toList := by simp [P.unhexS, P.unhex_hex]
  have e2 : P.unhexE (P.hex b.data.toList) = 0 := by simp [P.unhexE, P.unhex_hex]
  simp only [e1, e2] at ux
  have dg := fun W => digits_any v W hv hv2
  have hlen : (P.digits v).length ≤ 9223372036854775807 := by
    have h := P.digitsN_length 20 v.natAbs 20 (by omega) (by omega)
    simp [P.digits]
    split <;> simp <;> omega
  have nm := fun W => number_any ⟨(P.digits v).toArray⟩ W (by show (P.digits v).toArray.size ≤ _; rw [List.size_toArray]; unfold maxLen; omega)
  obtain ⟨k1, k2⟩ := P.numOk_digits v hv hv2
  have fin : ∀ (_ : ∃ ve ee : Int, (∀ W, Calls Try.prog 18 #[.string ⟨(P.digits v).toArray⟩] W fun e w' => e = .returned (.tuple #[.int .i64 ve, .int .i64 ee]) ∧ W = w') ∧ ((ee = 0 ∧ ve = v ∧ 0 ≤ v ∧ v ≤ 2147483647) ∨ (ee = 11 ∧ (v < 0 ∨ (0 ≤ v ∧ 2147483647 < v))))), Calls Try.prog 9 #[.int .i64 v, .int .i64 n, .string b] w fun e w' => e = .returned (.bool true) ∧ Below w.heap.size w w' := by
    rintro ⟨ve, ee, nm, hcase⟩
    have HX := Lib.hid hx
    have UX := Lib.hid ux
    have DG := Lib.hid dg
    have NM := Lib.hid nm
    have PC := Lib.hid pc
    clear hx ux dg nm pc e1 e2 hlen k1 k2
    generalize P.digits v = ds at *
    by_cases hok : P.putOk v n = true
    · have hb2 : 1 ≤ n ∧ n ≤ 7 ∧ 0 ≤ v ∧ v < 256 ^ n.toNat := of_decide_eq_true hok
      have pc2 := PC.out
      have Ea : P.putE v n = 0 := by simp [P.putE, hok]
      have Sa : P.putS v n = P.low n.toNat v.toNat := by simp [P.putS, hok]
      rw [Ea, Sa] at pc2
      obtain ⟨n', rfl⟩ := Int.eq_ofNat_of_zero_le (by omega : 0 ≤ n)
      obtain ⟨v', rfl⟩ := Int.eq_ofNat_of_zero_le hb2.2.2.1
      simp only [Int.toNat_natCast] at pc2 hb2
      have hlt : v' < 256 ^ n' := by exact_mod_cast hb2.2.2.2
      have gl := P.getN_low n' v' hlt
      have ll := P.low_length n' v'
      have g1 : P.getV (P.low n' v') = v' := by unfold P.getV; rw [if_pos (by omega), gl]
      have g2 : P.getE (P.low n' v') = 0 := by unfold P.getE; rw [if_pos (by omega)]
      have gc := fun W => get_any ⟨(P.low n' v').toArray⟩ W (by show (P.low n' v').toArray.size ≤ _; rw [List.size_toArray, ll]; unfold maxLen; omega)
      simp only [g1, g2] at gc
      have hlen : ((P.low n' v').length : Int) = (n' : Int) := by omega
      have PC2 := Lib.hid pc2
      have GC := Lib.hid gc
      have b1 : n' ≤ 7 := by omega
      clear pc2 gc Ea Sa hok hb2 hlt gl g1 g2 ll
      generalize P.low n' v' = lw at *
      rcases hcase with ⟨rfl, rfl, h3, h4⟩ | ⟨rfl, h3⟩
      · try have q1 := decide_eq_false (show ¬ (v' : Int) < 0 from by omega)
        try have q1 := decide_eq_true (show (v' : Int) < 0 from by omega)
        try have q2 := decide_eq_false (show ¬ 2147483647 < (v' : Int) from by omega)
        try have q2 := decide_eq_true (show 2147483647 < (v' : Int) from by omega)
        go_enter Try.func9, Try.ntmps9
        go_wp2_with (first | (go_at_call 13; refine (PC2.out _).mono ?_; rintro e w1 ⟨rfl, hb1⟩) | (go_at_call 16; refine (GC.out _).mono ?_; rintro e w' ⟨rfl, rfl⟩) | (go_at_call 25; refine (HX.out _).mono ?_; rintro e w2 ⟨rfl, hb2⟩) | (go_at_call 22; refine (UX.out _).mono ?_; rintro e w3 ⟨rfl, hb3⟩) | (go_at_call 20; refine (DG.out _).mono ?_; rintro e w4 ⟨rfl, hb4⟩) | (go_at_call 18; refine (NM.out _).mono ?_; rintro e w' ⟨rfl, rfl⟩) | (go_at_call 10; refine (alive1 _).mono ?_; rintro e wA ⟨rfl, hbA⟩))
        go_ret
        exact ⟨rfl, bt (bt (bt (bt hb1 hb2) hb3) hb4) hbA⟩
      · rcases h3 with h3 | ⟨h3, h4⟩
        · omega
        · try have q1 := decide_eq_false (show ¬ (v' : Int) < 0 from by omega)
          try have q1 := decide_eq_true (show (v' : Int) < 0 from by omega)
          try have q2 := decide_eq_false (show ¬ 2147483647 < (v' : Int) from by omega)
          try have q2 := decide_eq_true (show 2147483647 < (v' : Int) from by omega)
          go_enter Try.func9, Try.ntmps9
          go_wp2_with (first | (go_at_call 13; refine (PC2.out _).mono ?_; rintro e w1 ⟨rfl, hb1⟩) | (go_at_call 16; refine (GC.out _).mono ?_; rintro e w' ⟨rfl, rfl⟩) | (go_at_call 25; refine (HX.out _).mono ?_; rintro e w2 ⟨rfl, hb2⟩) | (go_at_call 22; refine (UX.out _).mono ?_; rintro e w3 ⟨rfl, hb3⟩) | (go_at_call 20; refine (DG.out _).mono ?_; rintro e w4 ⟨rfl, hb4⟩) | (go_at_call 18; refine (NM.out _).mono ?_; rintro e w' ⟨rfl, rfl⟩) | (go_at_call 10; refine (alive1 _).mono ?_; rintro e wA ⟨rfl, hbA⟩))
          go_ret
          exact ⟨rfl, bt (bt (bt (bt hb1 hb2) hb3) hb4) hbA⟩
    · have pc2 := PC.out
      have Ea : P.putE v n = 1 := by simp [P.putE, hok]
      rw [Ea] at pc2
      have PC2 := Lib.hid pc2
      clear pc2 Ea hok
      rcases hcase with ⟨rfl, hve, h3, h4⟩ | ⟨rfl, h3⟩
      · have hve := hve.symm
        subst hve
        try have q1 := decide_eq_false (show ¬ v < 0 from by omega)
        try have q1 := decide_eq_true (show v < 0 from by omega)
        try have q2 := decide_eq_false (show ¬ 2147483647 < v from by omega)
        try have q2 := decide_eq_true (show 2147483647 < v from by omega)
        go_enter Try.func9, Try.ntmps9
        go_wp2_with (first | (go_at_call 13; refine (PC2.out _).mono ?_; rintro e w1 ⟨rfl, hb1⟩) | (go_at_call 25; refine (HX.out _).mono ?_; rintro e w2 ⟨rfl, hb2⟩) | (go_at_call 22; refine (UX.out _).mono ?_; rintro e w3 ⟨rfl, hb3⟩) | (go_at_call 20; refine (DG.out _).mono ?_; rintro e w4 ⟨rfl, hb4⟩) | (go_at_call 18; refine (NM.out _).mono ?_; rintro e w' ⟨rfl, rfl⟩) | (go_at_call 10; refine (alive1 _).mono ?_; rintro e wA ⟨rfl, hbA⟩))
        go_ret
        exact ⟨rfl, bt (bt (bt (bt hb1 hb2) hb3) hb4) hbA⟩
      · rcases h3 with h3 | ⟨h3, h4⟩
        · try have q1 := decide_eq_false (show ¬ v < 0 from by omega)
          try have q1 := decide_eq_true (show v < 0 from by omega)
          try have q2 := decide_eq_false (show ¬ 2147483647 < v from by omega)
          try have q2 := decide_eq_true (show 2147483647 < v from by omega)
          go_enter Try.func9, Try.ntmps9
          go_wp2_with (first | (go_at_call 13; refine (PC2.out _).mono ?_; rintro e w1 ⟨rfl, hb1⟩) | (go_at_call 25; refine (HX.out _).mono ?_; rintro e w2 ⟨rfl, hb2⟩) | (go_at_call 22; refine (UX.out _).mono ?_; rintro e w3 ⟨rfl, hb3⟩) | (go_at_call 20; refine (DG.out _).mono ?_; rintro e w4 ⟨rfl, hb4⟩) | (go_at_call 18; refine (NM.out _).mono ?_; rintro e w' ⟨rfl, rfl⟩) | (go_at_call 10; refine (alive1 _).mono ?_; rintro e wA ⟨rfl, hbA⟩))
          go_ret
          exact ⟨rfl, bt (bt (bt (bt hb1 hb2) hb3) hb4) hbA⟩
        · try have q1 := decide_eq_false (show ¬ v < 0 from by omega)
          try have q1 := decide_eq_true (show v < 0 from by omega)
          try have q2 := decide_eq_false (show ¬ 2147483647 < v from by omega)
          try have q2 := decide_eq_true (show 2147483647 < v from by omega)
          go_enter Try.func9, Try.ntmps9
          go_wp2_with (first | (go_at_call 13; refine (PC2.out _).mono ?_; rintro e w1 ⟨rfl, hb1⟩) | (go_at_call 25; refine (HX.out _).mono ?_; rintro e w2 ⟨rfl, hb2⟩) | (go_at_call 22; refine (UX.out _).mono ?_; rintro e w3 ⟨rfl, hb3⟩) | (go_at_call 20; refine (DG.out _).mono ?_; rintro e w4 ⟨rfl, hb4⟩) | (go_at_call 18; refine (NM.out _).mono ?_; rintro e w' ⟨rfl, rfl⟩) | (go_at_call 10; refine (alive1 _).mono ?_; rintro e wA ⟨rfl, hbA⟩))
          go_ret
          exact ⟨rfl, bt (bt (bt (bt hb1 hb2) hb3) hb4) hbA⟩
  apply fin
  have nm2 : ∀ W, Calls Try.prog 18 #[.string ⟨(P.digits v).toArray⟩] W fun e w' => e = .returned (.tuple #[.int .i64 (P.numV (P.digits v)), .int .i64 (P.numE (P.digits v))]) ∧ W = w' := nm
  refine ⟨_, _, nm2, ?_⟩
  by_cases h : 0 ≤ v ∧ v ≤ 2147483647
  · rw [decide_eq_true h] at k1
    exact .inl ⟨by simp [P.numE, k1], by simp [P.numV, k1, k2 h.1], h.1, h.2⟩
  · rw [decide_eq_false h] at k1
    exact .inr ⟨by simp [P.numE, k1], by omega⟩
end Go.Proofs.Ytefebcibcmjbaaa
