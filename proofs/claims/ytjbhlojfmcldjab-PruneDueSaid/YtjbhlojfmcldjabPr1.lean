/- What table.Terminal, prune.open return. -/
import Derived.Test.YtjbhlojfmcldjabReads
import Derived.BigQuiet
import Derived.Deep.QuietTactic
namespace Go.Proofs.Ytjbhlojfmcldjab
set_option linter.unusedVariables false
open Go.RowKit Go.BigFrame
namespace P
theorem terminal_open {ls : List Leg} {k : Nat} {l : Leg} (h : ls[k]? = some l) (ho : l.isOpen = true) : terminal 3 ls = false := by
  have : (ls.all fun l => !l.isOpen) = false := by
    rw [List.all_eq_false]
    exact ⟨l, List.mem_of_getElem? h, by simp [ho]⟩
  simp [terminal, this]
theorem terminal_all {ls : List Leg} (h : ∀ j l, j < ls.length → ls[j]? = some l → l.isOpen = false) : terminal 3 ls = true := by
  have : (ls.all fun l => !l.isOpen) = true := by
    rw [List.all_eq_true]
    intro l hl
    obtain ⟨j, hj⟩ := List.getElem?_of_mem hl
    have hjl : j < ls.length := by
      rcases Nat.lt_or_ge j ls.length with h1 | h1
      · exact h1
      · rw [List.getElem?_eq_none h1] at hj; cases hj
    simp [h j l hjl hj]
  simp [terminal, this]
theorem open_key (l : Leg) : (l.isOpen = true ∧ ((l.status == 1) = true ∨ ((l.status == 1) = false ∧ (l.status == 2) = true))) ∨ (l.isOpen = false ∧ (l.status == 1) = false ∧ (l.status == 2) = false) := by
  unfold Leg.isOpen
  cases (l.status == 1) <;> cases (l.status == 2) <;> simp
end P
set_option maxRecDepth 100000 in
set_option maxHeartbeats 1000000 in
theorem terminal_any (id run tm st dn flt : Int) (raw : ByteArray) (A : Option Addr) (m cp : Nat) (ls : List P.Leg) (B : Nat) (w : World) (h : LegsAt w B A m ls) (hB : B ≤ w.heap.size) (hm : m ≤ maxLen) :
    Calls Try.prog 10 #[.agg #[.int .i64 id, .int .i64 run, .int .i64 tm, .int .i64 st, .int .i64 dn, .string raw, .int .i64 flt, .slice A m cp]] w fun x w' => x = .returned (.bool (P.terminal st ls)) ∧ Below w.heap.size w w' := by
  unfold maxLen at hm
  by_cases h3 : st = 3
  · subst h3
    have H := Lib.hid h
    clear h
    go_enter Try.func10, Try.ntmps10
    go_wp2_with fail
    go_loopw [15] (fun x wr => ∃ k : Nat, k ≤ m ∧ x = .int .i64 k ∧ (∀ j l, j < k → ls[j]? = some l → l.isOpen = false) ∧ Below w.heap.size w wr) (fun x _ => m - (intOf x).toNat)
    case atStart => exact ⟨0, by omega, rfl, fun j l hj => by omega, (Below.refl _ _).alloc (Nat.le_refl _) _⟩
    case round =>
      obtain ⟨k, hk, rfl, hno, hbel⟩ := hrel
      have Hno := Lib.hid hno
      clear hno
      by_cases hlt : k < m
      · obtain ⟨ad, l, rfl, hb, hl, hc⟩ := (H.out.below (hbel.mono hB)).in_ hlt
        have HL := Lib.hid hl
        obtain ⟨c0, c1, c2, c3, c4, c5⟩ := hc
        clear hl
        rcases P.open_key l with ⟨ho, t1 | ⟨t1, t2⟩⟩ | ⟨ho, t1, t2⟩
        · have HT := Lib.hid (P.terminal_open HL.out ho)
          clear ho
          go_wp2
          go_ret
          rw [HT.out]
          exact ⟨rfl, hbel.alloc hbel.size _⟩
        · have HT := Lib.hid (P.terminal_open HL.out ho)
          clear ho
          go_wp2
          go_ret
          rw [HT.out]
          exact ⟨rfl, hbel.alloc hbel.size _⟩
        · have HN := Lib.hid (show ∀ j l, j < k + 1 → ls[j]? = some l → l.isOpen = false from fun j l2 hj hl2 => by
            rcases Nat.lt_or_ge j k with h1 | h1
            · exact Hno.out j l2 h1 hl2
            · have : j = k := by omega
              subst this
              rw [HL.out] at hl2
              cases hl2
              exact ho)
          clear ho
          go_wp2
          go_roundw
          case rel => exact ⟨k + 1, by omega, by go_num, HN.out, hbel.alloc hbel.size _⟩
          case measure => simp [intOf]; omega
      · have hkm : k = m := by omega
        have HT := Lib.hid (P.terminal_all (ls := ls) (fun j l hj hl => Hno.out j l (by have := H.out.len; omega) hl))
        clear hkm
        go_wp2
        go_ret
        rw [HT.out]
        exact ⟨rfl, hbel⟩
  · have key : ((st == 1) = true ∧ P.terminal st ls = true) ∨ ((st == 1) = false ∧ (st == 2) = true ∧ P.terminal st ls = true) ∨ ((st == 1) = false ∧ (st == 2) = false ∧ (st == 3) = false ∧ P.terminal st ls = false) := by
      have h3' : (st == 3) = false := by simpa using h3
      unfold P.terminal
      rw [h3']
      cases (st == 1) <;> cases (st == 2) <;> simp
    clear h3
    rcases key with ⟨t1, ht⟩ | ⟨t1, t2, ht⟩ | ⟨t1, t2, t3, ht⟩
    all_goals
      have HT := Lib.hid ht
      clear ht h
      go_enter Try.func10, Try.ntmps10
      go_wp2
      go_ret
      rw [HT.out]
      exact ⟨rfl, (Below.refl _ _).alloc (Nat.le_refl _) _⟩
set_option maxRecDepth 100000 in
set_option maxHeartbeats 1000000 in
theorem open_any (l : P.Leg) (w : World) : Calls Try.prog 24 #[.agg #[.string l.name, .int .i64 l.status, .int .i64 l.tries, .int .i64 l.due, .string l.payload, .string l.reply]] w fun x w' => x = .returned (.bool l.isOpen) ∧ Below w.heap.size w w' := by
  rcases P.open_key l with ⟨ho, t1 | ⟨t1, t2⟩⟩ | ⟨ho, t1, t2⟩
  all_goals
    have HO := Lib.hid ho
    clear ho
    go_enter Try.func24, Try.ntmps24
    go_wp2
    go_ret
    rw [HO.out]
    exact ⟨rfl, (Below.refl _ _).alloc (Nat.le_refl _) _⟩
end Go.Proofs.Ytjbhlojfmcldjab
