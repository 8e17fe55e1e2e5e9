/- Part A11 of the proof: the statement that is proved stands in the text that ends with its name. No conditions beyond the card's. -/
import Derived.Test.YtmabpnmnppfgaaaGreatDoorA9
namespace Go.Proofs.YtmabpnmnppfgaaaGreatDoor
set_option linter.unusedVariables false
open Go Go.RowKit Go.BigFrame
theorem IntsIn.at_ {w : World} {B m : Nat} {A : Option Addr} {ns : List Int} (h : IntsIn w B A m ns) {k : Nat} (hk : k < m) : ∃ ad n, A = some ad ∧ ad.block < B ∧ ns[k]? = some n ∧ w.cell? (ad.add k) = some (.int .i64 n) := by
  obtain ⟨ad, e, hB, hc⟩ := h.2 (by omega)
  have hk' : k < ns.length := by rw [h.1]; exact hk
  exact ⟨ad, ns[k], e, hB, List.getElem?_eq_getElem hk', hc k _ (List.getElem?_eq_getElem hk')⟩
set_option maxRecDepth 100000 in
set_option maxHeartbeats 4000000 in
theorem same_any (w : World) (word name data : ByteArray) (A1 A2 : Option Addr) (m c1 c2 : Nat) (ns : List Int) (h1 : IntsIn w w.heap.size A1 m ns) (h2 : IntsIn w w.heap.size A2 m ns) (hm : m ≤ 1048576) :
    Calls Tryz.prog 7 #[.agg #[.string word, .slice A1 m c1, .string name, .string data], .agg #[.string word, .slice A2 m c2, .string name, .string data]] w fun e w' => e = .returned (.bool true) ∧ Below w.heap.size w w' := by
  have t1 : (word.toList == word.toList) = true := by simp
  have t2 : (name.toList == name.toList) = true := by simp
  have t3 : (data.toList == data.toList) = true := by simp
  have H1 := Lib.hid h1
  have H2 := Lib.hid h2
  clear h1 h2
  go_enter Tryz.func7, Tryz.ntmps7
  go_wp2_with fail
  obtain ⟨w2, hw2⟩ : ∃ w2, w2 = (w.alloc (.cells #[.string word, .slice A1 m c1, .string name, .string data] 24)).alloc (.cells #[.string word, .slice A2 m c2, .string name, .string data] 24) := ⟨_, rfl⟩
  rw [← hw2]
  have E1 := Lib.hid (show Blk w2 w.heap.size 24 #[.string word, .slice A1 m c1, .string name, .string data] from hw2 ▸ (Blk.new w _ _).alloc _)
  have E2 := Lib.hid (show Blk w2 (w.heap.size + 1) 24 #[.string word, .slice A2 m c2, .string name, .string data] by
    have := Blk.new (w.alloc (.cells #[.string word, .slice A1 m c1, .string name, .string data] 24)) 24 #[.string word, .slice A2 m c2, .string name, .string data]
    rw [hw2]
    simpa using this)
  have B2 := Lib.hid (show Below w.heap.size w w2 from hw2 ▸ ((Below.refl _ w).alloc (Nat.le_refl _) _).alloc (by simp) _)
  have hz2 : w.heap.size + 2 ≤ w2.heap.size := by rw [hw2]; simp
  clear hw2
  go_loopw [5] (fun x wr => ∃ k : Nat, k ≤ m ∧ x = .int .i64 k ∧ Below w2.heap.size w2 wr) (fun x _ => m - (intOf x).toNat)
  case atStart => exact ⟨0, by omega, rfl, Below.refl _ _⟩
  case round =>
    obtain ⟨k, hk, rfl, hbel⟩ := hrel
    have HB := Lib.hid hbel
    have c1_ := (E1.out.below hbel (by omega)).cell
    have c2_ := (E2.out.below hbel (by omega)).cell
    have BW := Lib.hid (B2.out.trans (hbel.mono B2.out.size))
    clear hbel
    by_cases hlt : k < m
    · have q1 : decide ((k : Int) < (m : Int)) = true := by simp; omega
      obtain ⟨ad, x, rfl, hb, hl, hc⟩ := (H1.out.below BW.out).at_ hlt
      obtain ⟨ad2, y, rfl, hb2, hl2, hc2⟩ := (H2.out.below BW.out).at_ hlt
      obtain rfl : y = x := Option.some.inj (hl2.symm.trans hl)
      have q2 : (y == y) = true := by simp
      clear hl hl2
      go_wp2_with fail
      go_quiet (fail)
      go_wp2
      go_roundw
      case rel => exact ⟨k + 1, by omega, by go_num, below_drewN HB.out _⟩
      case measure => simp [intOf]; omega
    · have q1 : decide ((k : Int) < (m : Int)) = false := by simp; omega
      go_wp2
      go_ret
      exact ⟨rfl, BW.out⟩
end Go.Proofs.YtmabpnmnppfgaaaGreatDoor
