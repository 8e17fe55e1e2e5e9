/- What the reference's Is and Head return. -/
import Derived.Test.YtefebcibcmjbaabDelim4
namespace Go.Proofs.Ytefebcibcmjbaab
set_option linter.unusedVariables false
open Go.RowKit Go.BigFrame
set_option maxRecDepth 100000 in
set_option maxHeartbeats 1000000 in
theorem refIs_any (f c r e s b : UInt8) (w : World) : Calls Try.prog 18 #[.agg #[.int .u8 (f.toNat : Int), .int .u8 (c.toNat : Int), .int .u8 (r.toNat : Int), .int .u8 (e.toNat : Int), .int .u8 (s.toNat : Int)], .int .u8 (b.toNat : Int)] w fun x w' => x = .returned (.bool (P.isSign [f, c, r, e, s] b)) ∧ Below w.heap.size w w' := by
  go_enter Try.func18, Try.ntmps18
  go_wp2_with (go_at_call 27; refine (list_any f c r e s _).mono ?_; rintro x w3 ⟨rfl, hb3⟩)
  have HB := Lib.hid ((box_below hb3).alloc (Nat.le_trans (by simp) hb3.size) (.cells #[.int .u8 (f.toNat : Int), .int .u8 (c.toNat : Int), .int .u8 (r.toNat : Int), .int .u8 (e.toNat : Int), .int .u8 (s.toNat : Int)] 37))
  have HC := Lib.hid (fun j hj => cells5 f c r e s w3 37 j hj)
  clear hb3
  generalize w3.alloc (.cells #[.int .u8 (f.toNat : Int), .int .u8 (c.toNat : Int), .int .u8 (r.toNat : Int), .int .u8 (e.toNat : Int), .int .u8 (s.toNat : Int)] 37) = W at *
  go_loop [6] (fun i => ∃ k : Nat, k ≤ 5 ∧ i = .int .i64 k ∧ ∀ j, j < k → [f, c, r, e, s].getD j 0 ≠ b) (fun i => 5 - (intOf i).toNat)
  case atStart => exact ⟨0, by omega, rfl, fun a ha => by omega⟩
  case round =>
    obtain ⟨k, hk, rfl, hno⟩ := hrel
    have Hno := Lib.hid hno
    clear hno
    by_cases hlt : k < 5
    · have hi := HC.out k hlt
      have Hy := Lib.hid (fun h => P.isSign_yes f c r e s b k hlt h)
      have Hn := Lib.hid (show [f, c, r, e, s].getD k 0 ≠ b → ∀ j, j < k + 1 → [f, c, r, e, s].getD j 0 ≠ b from fun h j hj => by
        rcases Nat.lt_or_ge j k with h1 | h1
        · exact Hno.out j h1
        · have : j = k := by omega
          subst this; exact h)
      generalize [f, c, r, e, s].getD k 0 = x at *
      by_cases hx : x = b
      · have HV := Lib.hid (Hy.out hx)
        subst hx
        have ht : ((x.toNat : Int) == (x.toNat : Int)) = true := by simp
        go_wp2
        go_ret
        rw [HV.out]
        exact ⟨rfl, HB.out⟩
      · have ht := ne_cast hx
        have Hn2 := Lib.hid (Hn.out hx)
        clear hx
        go_wp2
        go_round
        case rel => exact ⟨k + 1, by omega, by go_num, Hn2.out⟩
        case measure => simp [intOf]; omega
    · have HV := Lib.hid (P.isSign_no f c r e s b (fun j hj => Hno.out j (by omega)))
      go_wp2
      go_ret
      rw [HV.out]
      exact ⟨rfl, HB.out⟩
set_option maxRecDepth 100000 in
set_option maxHeartbeats 1000000 in
theorem refHead_any (f c r e s : UInt8) (w : World) : Calls Try.prog 16 #[.agg #[.int .u8 (f.toNat : Int), .int .u8 (c.toNat : Int), .int .u8 (r.toNat : Int), .int .u8 (e.toNat : Int), .int .u8 (s.toNat : Int)]] w fun x w' => x = .returned (.string ⟨(P.headS [f, c, r, e, s]).toArray⟩) ∧ Below w.heap.size w w' := by
  go_enter Try.func16, Try.ntmps16
  go_wp2_with fail
  refine (refValid_any f c r e s _).mono ?_
  rintro x w2 ⟨rfl, hb2⟩
  have HB := Lib.hid (box_below hb2)
  have hc := fun i => box_cells hb2 i
  clear hb2
  by_cases hv : P.valid [f, c, r, e, s] = true
  · have HV := Lib.hid (show P.headS [f, c, r, e, s] = [77, 83, 72, f, c, r, e, s] from by simp [P.headS, hv])
    have hblk := Blk.new w2 5 (cellsU8 [f, c, r, e, s])
    have hst := bytes_string (c := 5) (n := 5) hblk (by simp)
    have hst2 : (convert 32 9 (.slice (some ⟨w2.heap.size, 0, none⟩) 5 5)).run Try.prog (w2.alloc (.cells #[.int .u8 (f.toNat : Int), .int .u8 (c.toNat : Int), .int .u8 (r.toNat : Int), .int .u8 (e.toNat : Int), .int .u8 (s.toNat : Int)] 5)) = .ok (.string ⟨#[f, c, r, e, s]⟩) (w2.alloc (.cells #[.int .u8 (f.toNat : Int), .int .u8 (c.toNat : Int), .int .u8 (r.toNat : Int), .int .u8 (e.toNat : Int), .int .u8 (s.toNat : Int)] 5)) := hst
    clear hblk hst
    go_wp2
    go_ret
    rw [HV.out]
    exact ⟨rfl, HB.out.alloc HB.out.size _⟩
  · have hv2 : P.valid [f, c, r, e, s] = false := by simpa using hv
    have HV := Lib.hid (show P.headS [f, c, r, e, s] = [] from by simp [P.headS, hv2])
    clear hv hc
    go_wp2
    go_ret
    rw [HV.out]
    exact ⟨rfl, HB.out⟩
end Go.Proofs.Ytefebcibcmjbaab
