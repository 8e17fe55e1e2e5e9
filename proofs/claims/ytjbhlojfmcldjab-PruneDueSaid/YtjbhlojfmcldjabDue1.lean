/- What the reference's Terminal, and SameInts, return. -/
import Derived.Test.YtjbhlojfmcldjabIntsAt
import Derived.Test.YtjbhlojfmcldjabOld1
namespace Go.Proofs.Ytjbhlojfmcldjab
set_option linter.unusedVariables false
open Go.RowKit Go.BigFrame
set_option maxRecDepth 100000 in
set_option maxHeartbeats 2000000 in
theorem refTerminal_any (id run tm st dn flt : Int) (raw : ByteArray) (A : Option Addr) (m cp : Nat) (ls : List P.Leg) (B : Nat) (w : World) (h : LegsAt w B A m ls) (hB : B ≤ w.heap.size) (hm : m ≤ maxLen) :
    Calls Try.prog 36 #[.agg #[.int .i64 id, .int .i64 run, .int .i64 tm, .int .i64 st, .int .i64 dn, .string raw, .int .i64 flt, .slice A m cp]] w fun x w' => x = .returned (.bool (P.terminal st ls)) ∧ Below w.heap.size w w' := by
  unfold maxLen at hm
  have hbel := (Below.refl w.heap.size w).alloc (Nat.le_refl _) (.cells #[.int .i64 id, .int .i64 run, .int .i64 tm, .int .i64 st, .int .i64 dn, .string raw, .int .i64 flt, .slice A m cp] 33)
  have k0 := Blk.new w 33 #[.int .i64 id, .int .i64 run, .int .i64 tm, .int .i64 st, .int .i64 dn, .string raw, .int .i64 flt, .slice A m cp]
  have H := Lib.hid h
  have BB := Lib.hid hbel
  have K0 := Lib.hid k0
  clear h hbel k0
  have key : ((st == 1) = true ∧ P.terminal st ls = true) ∨ ((st == 1) = false ∧ (st == 2) = true ∧ P.terminal st ls = true) ∨ ((st == 1) = false ∧ (st == 2) = false ∧ P.terminal st ls = (st == 3 && ls.all fun l => !l.isOpen)) := by
    unfold P.terminal
    cases (st == 1) <;> cases (st == 2) <;> simp
  rcases key with ⟨t1, ht⟩ | ⟨t1, t2, ht⟩ | ⟨t1, t2, ht⟩
  · have HT := Lib.hid ht
    clear ht
    go_enter Try.func36, Try.ntmps36
    go_wp2
    go_ret
    rw [HT.out]
    exact ⟨rfl, BB.out⟩
  · have HT := Lib.hid ht
    clear ht
    go_enter Try.func36, Try.ntmps36
    go_wp2
    go_ret
    rw [HT.out]
    exact ⟨rfl, BB.out⟩
  · have HT := Lib.hid ht
    clear ht
    go_enter Try.func36, Try.ntmps36
    go_wp2_with fail
    go_loopw [3] (fun x wr => ∃ k : Nat, k ≤ m ∧ x = .int .i64 k ∧ (∀ j l, j < k → ls[j]? = some l → l.isOpen = false) ∧ Below (w.heap.size + 1) (w.alloc (.cells #[.int .i64 id, .int .i64 run, .int .i64 tm, .int .i64 st, .int .i64 dn, .string raw, .int .i64 flt, .slice A m cp] 33)) wr) (fun x _ => m - (intOf x).toNat)
    case atStart => exact ⟨0, by omega, rfl, fun j l hj => by omega, Below.refl _ _⟩
    case round =>
      obtain ⟨k, hk, rfl, hno, hbel⟩ := hrel
      have Hno := Lib.hid hno
      have BW := Lib.hid (BB.out.trans (hbel.mono (by omega)))
      have HB := Lib.hid hbel
      have c0 := fun i => (K0.out.below hbel (by omega)).cell i
      clear hno hbel
      by_cases hlt : k < m
      · have t3 : decide ((k : Int) < (m : Int)) = true := by simp; omega
        obtain ⟨ad, l, rfl, hb, hl, hc⟩ := (H.out.below (BW.out.mono hB)).in_ hlt
        have HL := Lib.hid hl
        obtain ⟨l0, l1, l2, l3, l4, l5⟩ := hc
        clear hl
        rcases P.open_key l with ⟨ho, t4 | ⟨t4, t5⟩⟩ | ⟨ho, t4, t5⟩
        · have HR := Lib.hid (show P.terminal st ls = false from by
            rw [HT.out]
            have : (ls.all fun l => !l.isOpen) = false := by
              rw [List.all_eq_false]
              exact ⟨l, List.mem_of_getElem? HL.out, by simp [ho]⟩
            rw [this, Bool.and_false])
          clear ho
          go_wp2
          go_ret
          rw [HR.out]
          exact ⟨rfl, BW.out⟩
        · have HR := Lib.hid (show P.terminal st ls = false from by
            rw [HT.out]
            have : (ls.all fun l => !l.isOpen) = false := by
              rw [List.all_eq_false]
              exact ⟨l, List.mem_of_getElem? HL.out, by simp [ho]⟩
            rw [this, Bool.and_false])
          clear ho
          go_wp2
          go_ret
          rw [HR.out]
          exact ⟨rfl, BW.out⟩
        · have HN := Lib.hid (show ∀ j l, j < k + 1 → ls[j]? = some l → l.isOpen = false from fun j l2 hj hl2 => by
            rcases Nat.lt_or_ge j k with h1 | h1
            · exact Hno.out j l2 h1 hl2
            · have : j = k := by omega
              subst this
              rw [HL.out] at hl2
              cases hl2
              exact ho)
          clear ho
          go_wp2
          go_roundw
          case rel => exact ⟨k + 1, by omega, by go_num, HN.out, HB.out⟩
          case measure => simp [intOf]; omega
      · have t3 : decide ((k : Int) < (m : Int)) = false := by simp; omega
        have hkm : k = m := by omega
        have HR := Lib.hid (show (st == 3) = P.terminal st ls from by
          rw [HT.out]
          have : (ls.all fun l => !l.isOpen) = true := by
            rw [List.all_eq_true]
            intro l hl
            obtain ⟨j, hj⟩ := List.getElem?_of_mem hl
            have hjl : j < ls.length := by
              rcases Nat.lt_or_ge j ls.length with h1 | h1
              · exact h1
              · rw [List.getElem?_eq_none h1] at hj; cases hj
            rw [Hno.out j l (by have := H.out.len; omega) hj]
            rfl
          rw [this, Bool.and_true])
        clear hkm
        go_wp2
        go_ret
        rw [← HR.out]
        exact ⟨rfl, BW.out⟩
set_option maxRecDepth 100000 in
set_option maxHeartbeats 1000000 in
theorem sameInts_any (A A2 : Option Addr) (n c c2 B : Nat) (l : List Int) (w : World) (h : IntsAt w B A n l) (h2 : IntsAt w B A2 n l) (hB : B ≤ w.heap.size) (hn : n ≤ maxLen) :
    Calls Try.prog 18 #[.slice A n c, .slice A2 n c2] w fun x w' => x = .returned (.bool true) ∧ Below w.heap.size w w' := by
  unfold maxLen at hn
  have H := Lib.hid h
  have H2 := Lib.hid h2
  clear h h2
  have t0 : ((n : Int) != (n : Int)) = false := by simp
  go_enter Try.func18, Try.ntmps18
  go_wp2_with fail
  go_loopw [5] (fun x wr => ∃ k : Nat, k ≤ n ∧ x = .int .i64 k ∧ Below w.heap.size w wr) (fun x _ => n - (intOf x).toNat)
  case atStart => exact ⟨0, by omega, rfl, Below.refl _ _⟩
  case round =>
    obtain ⟨k, hk, rfl, hbel⟩ := hrel
    have HB := Lib.hid hbel
    clear hbel
    by_cases hlt : k < n
    · have t1 : decide ((k : Int) < (n : Int)) = true := by simp; omega
      obtain ⟨ad, x, rfl, hb, hl, hc⟩ := (H.out.below (HB.out.mono hB)).in_ hlt
      obtain ⟨ad2, y, rfl, hb2, hl2, hc2⟩ := (H2.out.below (HB.out.mono hB)).in_ hlt
      obtain rfl : y = x := Option.some.inj (hl2.symm.trans hl)
      have t2 : (y == y) = true := by simp
      clear hl hl2
      go_wp2_with fail
      go_quiet (fail)
      go_wp2
      go_roundw
      case rel => exact ⟨k + 1, by omega, by go_num, below_drewN HB.out _⟩
      case measure => simp [intOf]; omega
    · have t1 : decide ((k : Int) < (n : Int)) = false := by simp; omega
      go_wp2
      go_ret
      exact ⟨rfl, HB.out⟩
end Go.Proofs.Ytjbhlojfmcldjab
