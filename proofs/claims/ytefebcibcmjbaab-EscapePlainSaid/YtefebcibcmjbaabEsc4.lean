/- What escape.meant returns: what an escape means; false: it means nothing. For texts whose lengths a machine holds. -/
import Derived.Test.YtefebcibcmjbaabEsc1
import Derived.Test.YtefebcibcmjbaabEscUnhex
import Derived.Test.YtefebcibcmjbaabShelf
namespace Go.Proofs.Ytefebcibcmjbaab
set_option linter.unusedVariables false
open Go.RowKit Go.BigFrame
theorem unhex_list (l : List UInt8) (w : World) (hs : l.length ≤ 281474976710656) :
    Calls Try.prog 36 #[.string ⟨l.toArray⟩] w fun e w' => e = .returned (.tuple #[.string ⟨(P.unhexS l).toArray⟩, .int .i64 (P.unhexE l)]) ∧ Below w.heap.size w w' :=
  unhex_any ⟨l.toArray⟩ w hs
theorem cutX (t : ByteArray) (w : World) : Calls Try.prog 35 #[.string t, .string ⟨#[88]⟩] w fun e w' => e = .returned (.tuple #[.string ⟨(Lib.trimPrefix t.data.toList [88]).toArray⟩, .bool (Lib.hasPrefix t.data.toList [88])]) ∧ w' = w := Try.strings_CutPrefix t ⟨#[88]⟩ w
theorem bt'' {w a b : World} (h : Below w.heap.size w a) (k : Below a.heap.size a b) : Below w.heap.size w b := h.trans (k.mono h.size)
set_option maxRecDepth 100000 in
set_option maxHeartbeats 4000000 in
theorem meant_any (f c r e s : UInt8) (t : ByteArray) (w : World) (hs : t.size ≤ 281474976710656) : Calls Try.prog 31 #[.agg #[.int .u8 (f.toNat : Int), .int .u8 (c.toNat : Int), .int .u8 (r.toNat : Int), .int .u8 (e.toNat : Int), .int .u8 (s.toNat : Int)], .string t] w fun x w' => x = .returned (.tuple #[.string ⟨(P.meantS f c r e s t.data.toList).toArray⟩, .bool (P.means f c r e s t.data.toList).isSome]) ∧ Below w.heap.size w w' := by
  have sc := Lib.hid (fun W => sign_any f c r e s t W)
  by_cases h0 : P.sign f c r e s t.data.toList = 0
  · have key : ∃ p is, Lib.trimPrefix t.data.toList [88] = p ∧ Lib.hasPrefix t.data.toList [88] = is ∧ P.meantS f c r e s t.data.toList = P.unhexS p ∧ p.length ≤ 281474976710656 ∧ ((is = false ∧ P.means f c r e s t.data.toList = none) ∨ (is = true ∧ P.means f c r e s t.data.toList = if p = [] then none else P.unhex p)) := by
      have hl : t.data.toList.length ≤ 281474976710656 := by simpa using hs
      generalize t.data.toList = l at *
      by_cases hx : ∃ d, l = 88 :: d
      · obtain ⟨d, rfl⟩ := hx
        obtain ⟨k1, k2⟩ := P.means_x h0
        exact ⟨d, true, by simp [Lib.trimPrefix, Lib.hasPrefix], by simp [Lib.hasPrefix], k2, by simp at hl; omega, Or.inr ⟨rfl, k1⟩⟩
      · obtain ⟨k1, k2⟩ := P.means_no h0 (fun d hd => hx ⟨d, hd⟩)
        have hp : Lib.hasPrefix l [88] = false := by
          match l, hx with
          | [], _ => rfl
          | b :: d, hx =>
            have hb : ¬ 88 = b := fun e => hx ⟨d, by rw [e]⟩
            simp [Lib.hasPrefix, List.isPrefixOf, hb]
        exact ⟨l, false, by simp [Lib.trimPrefix, hp], hp, k2, hl, Or.inl ⟨rfl, k1⟩⟩
    obtain ⟨p, is, k1, k2, k3, k4, k5⟩ := key
    have t0 : (((P.sign f c r e s t.data.toList).toNat : Int) != 0) = false := by rw [h0]; rfl
    have cc := fun W => cutX t W
    rw [k1, k2] at cc
    have CC := Lib.hid cc
    have uc := fun W => unhex_list p W k4
    have HS := Lib.hid k3
    clear cc k1 k2 k3 h0
    generalize P.sign f c r e s t.data.toList = g at *
    generalize P.means f c r e s t.data.toList = m at *
    generalize P.meantS f c r e s t.data.toList = ms at *
    have walk : ∀ (S : List UInt8) (E : Int), (∀ W, Calls Try.prog 36 #[.string ⟨p.toArray⟩] W fun e w' => e = .returned (.tuple #[.string ⟨S.toArray⟩, .int .i64 E]) ∧ Below W.heap.size W w') → P.unhexS p = S →
        ((is = false ∧ m.isSome = false) ∨ (is = true ∧ (E == 0) = false ∧ m.isSome = false) ∨ (is = true ∧ (E == 0) = true ∧ S = [] ∧ m.isSome = false) ∨ (is = true ∧ (E == 0) = true ∧ S ≠ [] ∧ m.isSome = true)) →
        Calls Try.prog 31 #[.agg #[.int .u8 (f.toNat : Int), .int .u8 (c.toNat : Int), .int .u8 (r.toNat : Int), .int .u8 (e.toNat : Int), .int .u8 (s.toNat : Int)], .string t] w fun x w' => x = .returned (.tuple #[.string ⟨ms.toArray⟩, .bool m.isSome]) ∧ Below w.heap.size w w' := by
      intro S E hu hS hcases
      have UC := Lib.hid hu
      have HS2 := Lib.hid (HS.out.trans hS)
      clear hu hS k5 uc
      rcases hcases with ⟨rfl, hm⟩ | ⟨rfl, t1, hm⟩ | ⟨rfl, t1, rfl, hm⟩ | ⟨rfl, t1, t2, hm⟩
      all_goals
        have HM := Lib.hid hm
        clear hm
        try (have t3 : (S.isEmpty) = false := by simpa using t2
             clear t2)
        go_enter Try.func31, Try.ntmps31
        go_wp2_with fail
        refine (sc.out _).mono ?_
        rintro x w2 ⟨rfl, hb2⟩
        have B2 := Lib.hid (box_below hb2)
        clear hb2
        go_wp2_with fail
        refine (CC.out _).mono ?_
        rintro x w3 ⟨rfl, rfl⟩
        go_wp2_with fail
        refine (UC.out _).mono ?_
        rintro x w4 ⟨rfl, hb4⟩
        have B4 := Lib.hid (bt'' B2.out hb4)
        clear hb4
        go_wp2
        go_ret2
        rw [HM.out, HS2.out]
        exact ⟨rfl, B4.out⟩
    rcases k5 with ⟨h1, h2⟩ | ⟨h1, h2⟩
    · exact walk _ _ uc rfl (Or.inl ⟨h1, by rw [h2]; rfl⟩)
    · by_cases hp : p = []
      · exact walk [] 0 (by subst hp; exact uc) (by subst hp; rfl) (Or.inr (Or.inr (Or.inl ⟨h1, rfl, rfl, by rw [h2, if_pos hp]; rfl⟩)))
      · rw [if_neg hp] at h2
        cases hu : P.unhex p with
        | none =>
          have e1 : P.unhexS p = [] := by simp [P.unhexS, hu]
          have e2 : P.unhexE p = 10 := by simp [P.unhexE, hu]
          rw [e1, e2] at uc
          exact walk [] 10 uc e1 (Or.inr (Or.inl ⟨h1, rfl, by rw [h2, hu]; rfl⟩))
        | some x =>
          have e1 : P.unhexS p = x := by simp [P.unhexS, hu]
          have e2 : P.unhexE p = 0 := by simp [P.unhexE, hu]
          rw [e1, e2] at uc
          exact walk x 0 uc e1 (Or.inr (Or.inr (Or.inr ⟨h1, rfl, P.unhex_ne hp hu, by rw [h2, hu]; rfl⟩)))
  · have HM := Lib.hid (show P.means f c r e s t.data.toList = some [P.sign f c r e s t.data.toList] from by unfold P.means; rw [if_pos h0])
    have HS := Lib.hid (show P.meantS f c r e s t.data.toList = [P.sign f c r e s t.data.toList] from by unfold P.meantS; rw [if_pos h0])
    have t0 : (((P.sign f c r e s t.data.toList).toNat : Int) != 0) = true := by rw [bne_iff_ne]; intro h; exact h0 (UInt8.toNat_inj.1 (show _ = 0 from by omega))
    clear h0
    generalize P.sign f c r e s t.data.toList = g at *
    go_enter Try.func31, Try.ntmps31
    go_wp2_with fail
    refine (sc.out _).mono ?_
    rintro x w2 ⟨rfl, hb2⟩
    have HB := Lib.hid ((box_below hb2).alloc (box_below hb2).size (.cells #[.int .u8 (g.toNat : Int)] 5))
    have hst : (convert 32 9 (.slice (some ⟨w2.heap.size, 0, none⟩) 1 1)).run Try.prog (w2.alloc (.cells #[.int .u8 (g.toNat : Int)] 5)) = .ok (.string ⟨#[g]⟩) (w2.alloc (.cells #[.int .u8 (g.toNat : Int)] 5)) := bytes_string (c := 1) (n := 1) (Blk.new w2 5 (cellsU8 [g])) (by simp)
    clear hb2
    go_wp2
    go_ret2
    rw [HM.out, HS.out]
    exact ⟨rfl, HB.out⟩
end Go.Proofs.Ytefebcibcmjbaab
