/- What delim.Is, delim.Head and the reference's return. -/
import Derived.Test.YtefebcibcmjbaabDelim3
import Derived.Test.YtefebcibcmjbaabOwn
namespace Go.Proofs.Ytefebcibcmjbaab
set_option linter.unusedVariables false
open Go.RowKit Go.BigFrame
namespace P
def isSign (L : List UInt8) (b : UInt8) : Bool := L.any (· == b)
def headS (L : List UInt8) : List UInt8 := if valid L = true then [77, 83, 72] ++ L else []
theorem isSign_yes (f c r e s b : UInt8) (k : Nat) (hk : k < 5) (h : [f, c, r, e, s].getD k 0 = b) : isSign [f, c, r, e, s] b = true := by
  rcases (by omega : k = 0 ∨ k = 1 ∨ k = 2 ∨ k = 3 ∨ k = 4) with rfl | rfl | rfl | rfl | rfl <;> simp [isSign] at * <;> simp [h]
theorem isSign_no (f c r e s b : UInt8) (h : ∀ k, k < 5 → [f, c, r, e, s].getD k 0 ≠ b) : isSign [f, c, r, e, s] b = false := by
  have h0 := h 0 (by omega)
  have h1 := h 1 (by omega)
  have h2 := h 2 (by omega)
  have h3 := h 3 (by omega)
  have h4 := h 4 (by omega)
  simp at h0 h1 h2 h3 h4
  simp [isSign, h0, h1, h2, h3, h4]
end P
theorem box_cells {w w2 : World} {cs : Array Value} {t : TypeId} (hb : Below (w.alloc (.cells cs t)).heap.size (w.alloc (.cells cs t)) w2) (i : Nat) : w2.cell? ⟨w.heap.size, i, none⟩ = cs[i]? := by
  rw [hb.cell (p := ⟨w.heap.size, i, none⟩) (by simp), (Blk.new w _ _).cell]
theorem box_below {w w2 : World} {cs : Array Value} {t : TypeId} (hb : Below (w.alloc (.cells cs t)).heap.size (w.alloc (.cells cs t)) w2) : Below w.heap.size w w2 :=
  ((Below.refl w.heap.size w).alloc (Nat.le_refl _) _).trans (hb.mono (by simp))
theorem ne_cast {x y : UInt8} (h : x ≠ y) : ((x.toNat : Int) == (y.toNat : Int)) = false := beq_eq_false_iff_ne.2 (fun e => h (UInt8.toNat_inj.1 (by omega)))
set_option maxRecDepth 100000 in
set_option maxHeartbeats 1000000 in
theorem is_any (f c r e s b : UInt8) (w : World) : Calls Try.prog 17 #[.agg #[.int .u8 (f.toNat : Int), .int .u8 (c.toNat : Int), .int .u8 (r.toNat : Int), .int .u8 (e.toNat : Int), .int .u8 (s.toNat : Int)], .int .u8 (b.toNat : Int)] w fun x w' => x = .returned (.bool (P.isSign [f, c, r, e, s] b)) ∧ Below w.heap.size w w' := by
  go_enter Try.func17, Try.ntmps17
  go_wp2_with (go_at_call 25; refine (signs_any f c r e s _).mono ?_; rintro x w3 ⟨rfl, hb3⟩)
  have HB := Lib.hid (box_below hb3)
  clear hb3
  go_loop [9] (fun i => ∃ k : Nat, k ≤ 5 ∧ i = .int .i64 k ∧ ∀ j, j < k → [f, c, r, e, s].getD j 0 ≠ b) (fun i => 5 - (intOf i).toNat)
  case atStart => exact ⟨0, by omega, rfl, fun a ha => by omega⟩
  case round =>
    obtain ⟨k, hk, rfl, hno⟩ := hrel
    have Hno := Lib.hid hno
    clear hno
    by_cases hlt : k < 5
    · have hi := fun W => index5 f c r e s W k hlt
      have Hy := Lib.hid (fun h => P.isSign_yes f c r e s b k hlt h)
      have Hn := Lib.hid (show [f, c, r, e, s].getD k 0 ≠ b → ∀ j, j < k + 1 → [f, c, r, e, s].getD j 0 ≠ b from fun h j hj => by
        rcases Nat.lt_or_ge j k with h1 | h1
        · exact Hno.out j h1
        · have : j = k := by omega
          subst this; exact h)
      generalize [f, c, r, e, s].getD k 0 = x at *
      by_cases hx : x = b
      · have HV := Lib.hid (Hy.out hx)
        subst hx
        have ht : ((x.toNat : Int) == (x.toNat : Int)) = true := by simp
        go_wp2
        go_ret
        rw [HV.out]
        exact ⟨rfl, HB.out⟩
      · have ht := ne_cast hx
        have Hn2 := Lib.hid (Hn.out hx)
        clear hx
        go_wp2
        go_round
        case rel => exact ⟨k + 1, by omega, by go_num, Hn2.out⟩
        case measure => simp [intOf]; omega
    · have HV := Lib.hid (P.isSign_no f c r e s b (fun j hj => Hno.out j (by omega)))
      go_wp2
      go_ret
      rw [HV.out]
      exact ⟨rfl, HB.out⟩
set_option maxRecDepth 100000 in
set_option maxHeartbeats 1000000 in
theorem head_any (f c r e s : UInt8) (w : World) : Calls Try.prog 15 #[.agg #[.int .u8 (f.toNat : Int), .int .u8 (c.toNat : Int), .int .u8 (r.toNat : Int), .int .u8 (e.toNat : Int), .int .u8 (s.toNat : Int)]] w fun x w' => x = .returned (.string ⟨(P.headS [f, c, r, e, s]).toArray⟩) ∧ Below w.heap.size w w' := by
  go_enter Try.func15, Try.ntmps15
  go_wp2_with fail
  refine (valid_any f c r e s _).mono ?_
  rintro x w2 ⟨rfl, hb2⟩
  have HB := Lib.hid (box_below hb2)
  have hc := fun i => box_cells hb2 i
  clear hb2
  by_cases hv : P.valid [f, c, r, e, s] = true
  · have HV := Lib.hid (show P.headS [f, c, r, e, s] = [77, 83, 72, f, c, r, e, s] from by simp [P.headS, hv])
    go_wp2_with fail
    refine (signs_any f c r e s _).mono ?_
    rintro x w3 ⟨rfl, hb3⟩
    have hblk := Blk.new w3 37 (cellsU8 [f, c, r, e, s])
    have hst := bytes_string (c := 5) (n := 5) hblk (by simp)
    have hsl : ∀ W, (Instr.sliceAt 37 (.pointer (some ⟨w3.heap.size, 0, none⟩)) none none none).run Try.prog W = .ok (.slice (some ⟨w3.heap.size, 0, none⟩) 5 5) W := fun W => by kernel_rfl
    have hst2 : (convert 32 9 (.slice (some ⟨w3.heap.size, 0, none⟩) 5 5)).run Try.prog (w3.alloc (.cells #[.int .u8 (f.toNat : Int), .int .u8 (c.toNat : Int), .int .u8 (r.toNat : Int), .int .u8 (e.toNat : Int), .int .u8 (s.toNat : Int)] 37)) = .ok (.string ⟨#[f, c, r, e, s]⟩) (w3.alloc (.cells #[.int .u8 (f.toNat : Int), .int .u8 (c.toNat : Int), .int .u8 (r.toNat : Int), .int .u8 (e.toNat : Int), .int .u8 (s.toNat : Int)] 37)) := hst
    have HB3 := Lib.hid ((HB.out.trans (hb3.mono HB.out.size)).alloc (Nat.le_trans HB.out.size hb3.size) (.cells #[.int .u8 (f.toNat : Int), .int .u8 (c.toNat : Int), .int .u8 (r.toNat : Int), .int .u8 (e.toNat : Int), .int .u8 (s.toNat : Int)] 37))
    clear hc hb3 hblk hst
    go_wp2
    go_ret
    rw [HV.out]
    exact ⟨rfl, HB3.out⟩
  · have hv2 : P.valid [f, c, r, e, s] = false := by simpa using hv
    have HV := Lib.hid (show P.headS [f, c, r, e, s] = [] from by simp [P.headS, hv2])
    clear hv hc
    go_wp2
    go_ret
    rw [HV.out]
    exact ⟨rfl, HB.out⟩
end Go.Proofs.Ytefebcibcmjbaab
