/- What the reference's Valid returns. -/
import Derived.Test.YtefebcibcmjbaabDelim2
namespace Go.Proofs.Ytefebcibcmjbaab
set_option linter.unusedVariables false
open Go.RowKit Go.BigFrame
theorem may_false (c : UInt8) (h : P.may c = false) : c.toNat < 33 ∨ (33 ≤ c.toNat ∧ 126 < c.toNat) ∨ (48 ≤ c.toNat ∧ c.toNat ≤ 57) ∨ (65 ≤ c.toNat ∧ c.toNat ≤ 90) ∨ (97 ≤ c.toNat ∧ c.toNat ≤ 122) := by
  have := of_decide_eq_false h
  omega
theorem may_true (c : UInt8) (h : P.may c = true) : (33 ≤ c.toNat ∧ c.toNat < 48) ∨ (57 < c.toNat ∧ c.toNat < 65) ∨ (90 < c.toNat ∧ c.toNat < 97) ∨ (122 < c.toNat ∧ c.toNat ≤ 126) := by
  have := of_decide_eq_true h
  omega
set_option maxRecDepth 100000 in
set_option maxHeartbeats 2000000 in
theorem refValid_any (f c r e s : UInt8) (w : World) : Calls Try.prog 14 #[.agg #[.int .u8 (f.toNat : Int), .int .u8 (c.toNat : Int), .int .u8 (r.toNat : Int), .int .u8 (e.toNat : Int), .int .u8 (s.toNat : Int)]] w fun x w' => x = .returned (.bool (P.valid [f, c, r, e, s])) ∧ Below w.heap.size w w' := by
  go_enter Try.func14, Try.ntmps14
  go_wp2_with (go_at_call 27; refine (list_any f c r e s _).mono ?_; rintro x w3 ⟨rfl, hb3⟩)
  have HB3 := Lib.hid (show Below w.heap.size w (w3.alloc (.cells #[.int .u8 (f.toNat : Int), .int .u8 (c.toNat : Int), .int .u8 (r.toNat : Int), .int .u8 (e.toNat : Int), .int .u8 (s.toNat : Int)] 37)) from (((Below.refl w.heap.size w).alloc (Nat.le_refl _) _).trans (hb3.mono (by simp))).alloc (by have := hb3.size; simp at this; omega) _)
  have HC := Lib.hid (fun j hj => cells5 f c r e s w3 37 j hj)
  clear hb3
  generalize w3.alloc (.cells #[.int .u8 (f.toNat : Int), .int .u8 (c.toNat : Int), .int .u8 (r.toNat : Int), .int .u8 (e.toNat : Int), .int .u8 (s.toNat : Int)] 37) = W at *
  go_loop [4] (fun i => ∃ k : Nat, k ≤ 5 ∧ i = .int .i64 k ∧ P.okUp [f, c, r, e, s] k) (fun i => 5 - (intOf i).toNat)
  case atStart => exact ⟨0, by omega, rfl, fun a ha => by omega⟩
  case round =>
    obtain ⟨k, hk, rfl, hok⟩ := hrel
    have Hok := Lib.hid hok
    clear hok
    by_cases hlt : k < 5
    · have hck := HC.out k hlt
      have Bm := Lib.hid (fun h => P.bad_may (L := [f, c, r, e, s]) hlt h)
      have Bt := Lib.hid (fun b hb h => P.bad_twice (L := [f, c, r, e, s]) (b := b) hlt hb h)
      have Sc := Lib.hid (fun hm hd => P.okUp_succ (i := k) Hok.out hm hd)
      have HC2 := HC.out
      generalize hL : [f, c, r, e, s] = L at *
      have HC := Lib.hid HC2
      have HL := Lib.hid hL
      clear HC2 hL
      generalize hx : L.getD k 0 = x at *
      clear hx
      have hmx := x.toNat_lt
      by_cases hmay : P.may x = true
      · have Hmay := Lib.hid hmay
        rcases may_true x hmay with ⟨h, h'⟩ | ⟨h, h'⟩ | ⟨h, h'⟩ | ⟨h, h'⟩
        all_goals
          clear hmay
          go_wp2
          go_loop [6] (fun i => ∃ j : Nat, j ≤ k ∧ i = .int .i64 j ∧ ∀ b, b < j → L.getD b 0 ≠ x) (fun i => k - (intOf i).toNat)
          case atStart => exact ⟨0, by omega, rfl, fun b hb => by omega⟩
          case round =>
            obtain ⟨j, hj, rfl, hne⟩ := hrel
            have Hne := Lib.hid hne
            clear hne
            by_cases hjk : j < k
            · have hcj := HC.out j (by omega)
              have hy := (L.getD j 0).toNat_lt
              have Bj := Lib.hid (fun h => Bt.out j hjk h)
              have Nj := Lib.hid (show L.getD j 0 ≠ x → ∀ b, b < j + 1 → L.getD b 0 ≠ x from fun h b hb => by
                rcases Nat.lt_or_ge b j with h1 | h1
                · exact Hne.out b h1
                · have : b = j := by omega
                  subst this; exact h)
              generalize L.getD j 0 = y at *
              by_cases hxy : y = x
              · have HV := Lib.hid (Bj.out hxy)
                subst hxy
                have ht : ((y.toNat : Int) == (y.toNat : Int)) = true := by simp
                go_wp2
                go_ret
                rw [HL.out, HV.out]
                exact ⟨rfl, HB3.out⟩
              · have ht : ((y.toNat : Int) == (x.toNat : Int)) = false := beq_eq_false_iff_ne.2 (fun h => hxy (UInt8.toNat_inj.1 (by omega)))
                have Nj2 := Lib.hid (Nj.out hxy)
                clear hxy
                go_wp2
                go_round
                case rel => exact ⟨j + 1, by omega, by go_num, Nj2.out⟩
                case measure => simp [intOf]; omega
            · have hjk2 : j = k := by omega
              have Hok2 := Lib.hid (Sc.out Hmay.out (hjk2 ▸ Hne.out))
              clear hjk2
              go_wp2
              go_round
              case rel => exact ⟨k + 1, by omega, by go_num, Hok2.out⟩
              case measure => simp [intOf]; omega
      · have hmay2 : P.may x = false := by simpa using hmay
        have HV := Lib.hid (Bm.out hmay2)
        rcases may_false x hmay2 with h | ⟨h, h'⟩ | ⟨h, h'⟩ | ⟨h, h'⟩ | ⟨h, h'⟩
        all_goals
          clear hmay hmay2
          go_wp2
          go_ret
          rw [HL.out, HV.out]
          exact ⟨rfl, HB3.out⟩
    · have hk5 : k = 5 := by omega
      have HV := Lib.hid (show P.valid [f, c, r, e, s] = true from decide_eq_true (hk5 ▸ Hok.out))
      clear hk5
      go_wp2
      go_ret
      rw [HV.out]
      exact ⟨rfl, HB3.out⟩
end Go.Proofs.Ytefebcibcmjbaab
