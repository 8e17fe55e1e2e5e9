/- Part F8 of the proof: the statement that is proved stands in the text that ends with its name. No conditions beyond the card's. -/
import Derived.Test.YtmabpnmnppfgaaaGreatDoorA10
import Derived.Test.YtmabpnmnppfgaaaGreatDoorF9
import Derived.Test.YtmabpnmnppfgaaaGreatDoorF7
import Derived.Test.YtmabpnmnppfgaaaGreatDoorK2
namespace Go.Proofs.YtmabpnmnppfgaaaGreatDoor
set_option linter.unusedVariables false
open Go Go.RowKit Go.BigFrame
def AliveOk : Prop := ∀ w : World, Calls Tryz.prog 4 #[] w fun e w' => e = .returned (.bool true) ∧ Below w.heap.size w w'
theorem NumsR.form {w : World} {B : Nat} {v : Value} {ns : List Int} (h : NumsR w B v ns) : ∃ A k, v = .slice A ns.length k ∧ IntsIn w w.heap.size A ns.length ns ∧ ∀ ad, A = some ad → B ≤ ad.block ∧ ad.block < w.heap.size := by
  rcases h with ⟨rfl, rfl⟩ | ⟨g, n, cap, rfl, rfl, h1, h2, h3⟩
  · exact ⟨none, 0, rfl, ⟨rfl, fun h => absurd h (by simp)⟩, fun ad h => by cases h⟩
  · refine ⟨_, _, rfl, ⟨rfl, fun _ => ⟨_, rfl, h2, fun j x hj => ?_⟩⟩, fun ad h => by cases h; exact ⟨h1, h2⟩⟩
    cases j with
    | zero => simp at hj; subst hj; rw [add0]; exact h3
    | succ j => simp at hj
theorem NumsNew.form {w w' : World} {v : Value} {ns : List Int} (h : NumsNew w w' v ns) : ∃ A k, v = .slice A ns.length k ∧ IntsIn w' w'.heap.size A ns.length ns := by
  rcases h with ⟨rfl, rfl⟩ | ⟨g, n, rfl, rfl, h1, h2⟩
  · exact ⟨none, 0, rfl, ⟨rfl, fun h => absurd h (by simp)⟩⟩
  · refine ⟨_, _, rfl, ⟨rfl, fun _ => ⟨_, rfl, h2.lt, fun j x hj => ?_⟩⟩⟩
    cases j with
    | zero => simp at hj; subst hj; rw [add0]; exact h2.cell 0
    | succ j => simp at hj
theorem NumsNew.below {w w' w'' : World} {v : Value} {ns : List Int} (h : NumsNew w w' v ns) (hb : Below w'.heap.size w' w'') : NumsNew w w'' v ns := by
  rcases h with h | ⟨g, n, rfl, rfl, h1, h2⟩
  · exact .inl h
  · exact .inr ⟨g, n, rfl, rfl, h1, h2.below hb h2.lt⟩
theorem IntsIn.same {w w' : World} {A : Option Addr} {m : Nat} {ns : List Int} (h : IntsIn w w.heap.size A m ns) (hs : w.heap.size ≤ w'.heap.size) (hb : ∀ ad, A = some ad → w'.heap[ad.block]? = w.heap[ad.block]?) : IntsIn w' w'.heap.size A m ns := by
  refine ⟨h.1, fun hm => ?_⟩
  obtain ⟨ad, e, h1, h2⟩ := h.2 hm
  exact ⟨ad, e, by omega, fun j n hj => (World.cell?_of_block (by rw [block_of_add]; exact hb ad e)).trans (h2 j n hj)⟩
theorem PrintOut.only {c : Ad.Step} {e : Ending} (h : PrintOut c e) : ∃ (s : ByteArray) (er : Int), e = .returned (.tuple #[.string s, .int .i64 er]) ∧ ∀ e2, PrintOut c e2 → e2 = .returned (.tuple #[.string s, .int .i64 er]) := by
  obtain ⟨s, er, h1, h2⟩ := h.same h
  refine ⟨s, er, h1, fun e2 he => ?_⟩
  obtain ⟨s', er', k1, k2⟩ := h.same he
  rw [k2, ← k1, h1]
def LawI (gb base g8 : Nat) (S : Nat → Prop) (ms : List Int) (w3 : World) (x : Value) (wr : World) : Prop := ∃ k : Nat, x = .int .i64 k ∧ k ≤ 2 ∧ BkI gb base S ms k wr ∧ (∀ B, S B → wr.heap[B]? = w3.heap[B]?) ∧ Below base w3 wr
set_option maxRecDepth 100000 in
set_option maxHeartbeats 8000000 in
theorem parses_any (hal : AliveOk) (w : World) (line word name data : ByteArray) (A : Option Addr) (m cp : Nat) (ns : List Int) (n : Int) (hI : IntsIn w w.heap.size A m ns) (hr : ∀ x ∈ ns, -9223372036854775808 ≤ x ∧ x ≤ 9223372036854775807) (hA : A = none → m = 0 ∧ cp = 0)
    (hn50 : name.size ≤ 1125899906842624) (hd50 : data.size ≤ 1125899906842624) :
    Calls Tryz.prog 3 #[.string line, .agg #[.string word, .slice A m cp, .string name, .string data], .int .i64 n] w fun e w' => e = .returned (.bool true) ∧ Below w.heap.size w w' := by
  have HAL := Lib.hid hal
  have HI := Lib.hid hI
  have HRB := Lib.hid hr
  have HA := Lib.hid hA
  have B0 := Lib.hid ((Below.refl _ w).alloc (Nat.le_refl _) (.cells #[.string word, .slice A m cp, .string name, .string data] 24))
  clear hal hI hr hA
  by_cases hl : line.size ≤ 70000
  rotate_left
  · have q1 : (70000 : Int) < (line.size : Int) := by omega
    go_enter Tryz.func3, Tryz.ntmps3
    go_wp2_with fail
    refine (HAL.out _).mono ?_
    rintro e w2 ⟨rfl, hb2⟩
    go_wp2_with fail
    go_ret
    exact ⟨rfl, B0.out.trans (hb2.mono B0.out.size)⟩
  have q1 : ¬ (70000 : Int) < (line.size : Int) := by omega
  by_cases hm : m ≤ 20
  rotate_left
  · have q2 : (20 : Int) < (m : Int) := by omega
    go_enter Tryz.func3, Tryz.ntmps3
    go_wp2_with fail
    refine (HAL.out _).mono ?_
    rintro e w2 ⟨rfl, hb2⟩
    go_wp2_with fail
    go_ret
    exact ⟨rfl, B0.out.trans (hb2.mono B0.out.size)⟩
  have q2 : ¬ (20 : Int) < (m : Int) := by omega
  by_cases hnd : name.size + data.size ≤ 20000
  rotate_left
  · have q3 : (20000 : Int) < (name.size : Int) + (data.size : Int) := by omega
    go_enter Tryz.func3, Tryz.ntmps3
    go_wp2_with fail
    refine (HAL.out _).mono ?_
    rintro e w2 ⟨rfl, hb2⟩
    go_wp2_with fail
    go_ret
    exact ⟨rfl, B0.out.trans (hb2.mono B0.out.size)⟩
  have q3 : ¬ (20000 : Int) < (name.size : Int) + (data.size : Int) := by omega
  have HND := Lib.hid hnd
  have HM := Lib.hid hm
  have HL := Lib.hid hl
  clear hn50 hd50 hnd
  go_enter Tryz.func3, Tryz.ntmps3
  go_wp2_with fail
  obtain ⟨w1, hw1⟩ : ∃ w1, w1 = (w.alloc (.cells #[.string word, .slice A m cp, .string name, .string data] 24)).alloc (.cells #[.slice none 0 0, .slice none 0 0, .slice none 0 0, .slice none 0 0, .slice none 0 0, .slice none 0 0, .slice none 0 0, .slice none 0 0, .slice none 0 0, .slice none 0 0, .slice none 0 0, .slice none 0 0, .slice none 0 0, .slice none 0 0, .slice none 0 0, .slice none 0 0, .slice none 0 0, .slice none 0 0, .slice none 0 0, .slice none 0 0, .slice none 0 0, .slice none 0 0, .slice none 0 0, .slice none 0 0, .slice none 0 0, .slice none 0 0, .slice none 0 0, .slice none 0 0, .slice none 0 0, .slice none 0 0, .slice none 0 0, .slice none 0 0, .slice none 0 0, .slice none 0 0] 45) := ⟨_, rfl⟩
  rw [← hw1]
  have E1 := Lib.hid (show Blk w1 w.heap.size 24 #[.string word, .slice A m cp, .string name, .string data] from hw1 ▸ (Blk.new w _ _).alloc _)
  have G1 := Lib.hid (show Blk w1 (w.heap.size + 1) 45 (Array.replicate 34 (.slice none 0 0)) by
    have := Blk.new (w.alloc (.cells #[.string word, .slice A m cp, .string name, .string data] 24)) 45 #[.slice none 0 0, .slice none 0 0, .slice none 0 0, .slice none 0 0, .slice none 0 0, .slice none 0 0, .slice none 0 0, .slice none 0 0, .slice none 0 0, .slice none 0 0, .slice none 0 0, .slice none 0 0, .slice none 0 0, .slice none 0 0, .slice none 0 0, .slice none 0 0, .slice none 0 0, .slice none 0 0, .slice none 0 0, .slice none 0 0, .slice none 0 0, .slice none 0 0, .slice none 0 0, .slice none 0 0, .slice none 0 0, .slice none 0 0, .slice none 0 0, .slice none 0 0, .slice none 0 0, .slice none 0 0, .slice none 0 0, .slice none 0 0, .slice none 0 0, .slice none 0 0]
    rw [hw1, show (Array.replicate 34 (Value.slice none 0 0)) = #[.slice none 0 0, .slice none 0 0, .slice none 0 0, .slice none 0 0, .slice none 0 0, .slice none 0 0, .slice none 0 0, .slice none 0 0, .slice none 0 0, .slice none 0 0, .slice none 0 0, .slice none 0 0, .slice none 0 0, .slice none 0 0, .slice none 0 0, .slice none 0 0, .slice none 0 0, .slice none 0 0, .slice none 0 0, .slice none 0 0, .slice none 0 0, .slice none 0 0, .slice none 0 0, .slice none 0 0, .slice none 0 0, .slice none 0 0, .slice none 0 0, .slice none 0 0, .slice none 0 0, .slice none 0 0, .slice none 0 0, .slice none 0 0, .slice none 0 0, .slice none 0 0] from rfl]
    simpa using this)
  have B1 := Lib.hid (show Below w.heap.size w w1 from hw1 ▸ ((Below.refl _ w).alloc (Nat.le_refl _) _).alloc (by simp) _)
  have hz1 : w1.heap.size = w.heap.size + 2 := by rw [hw1]; simp
  have HZ1 := Lib.hid hz1
  clear hw1 hz1 q1 q2 q3
  refine (refParse_any line w1 (by have := HL.out; omega)).mono ?_
  rintro e w2 ⟨hpo, hb2⟩
  obtain ⟨cw, cn, cd, ms, er, vy, rfl, hNy, hml, hmb, hprog⟩ := both_parse line (by have := HL.out; omega) hpo
  obtain ⟨Ay, ky, rfl, hIy, hAy⟩ := hNy.form
  have KP := Lib.hid hprog
  have HML := Lib.hid hml
  obtain ⟨w3, hw3⟩ : ∃ w3, w3 = w2.alloc (.cells #[.string cw, .slice Ay ms.length ky, .string cn, .string cd] 24) := ⟨_, rfl⟩
  have z3 : w3.heap.size = w2.heap.size + 1 := by rw [hw3]; simp
  have HB3 := Lib.hid (show Below w2.heap.size w2 w3 from hw3 ▸ (Below.refl _ w2).alloc (Nat.le_refl _) _)
  have E3 := Lib.hid (((E1.out.below hb2 E1.out.lt)).below HB3.out (Nat.lt_of_lt_of_le E1.out.lt hb2.size))
  have G3 := Lib.hid (((G1.out.below hb2 G1.out.lt)).below HB3.out (Nat.lt_of_lt_of_le G1.out.lt hb2.size))
  have Y3 := Lib.hid (show Blk w3 w2.heap.size 24 #[.string cw, .slice Ay ms.length ky, .string cn, .string cd] from hw3 ▸ Blk.new w2 _ _)
  have B3 := Lib.hid ((B1.out.trans (hb2.mono B1.out.size)).trans (HB3.out.mono (Nat.le_trans B1.out.size hb2.size)))
  have I3 := Lib.hid (show IntsIn w3 w3.heap.size Ay ms.length ms from (hIy.below HB3.out).less HB3.out.size)
  have hs2 := hb2.size
  have HZ3 := Lib.hid z3
  have HZ2 := Lib.hid (show w.heap.size + 2 ≤ w2.heap.size by have := HZ1.out; omega)
  obtain ⟨S, hS⟩ : ∃ S : Nat → Prop, S = fun B => B = w2.heap.size ∨ ∃ ad, Ay = some ad ∧ B = ad.block := ⟨_, rfl⟩
  have HS8 := Lib.hid (show S w2.heap.size from by rw [hS]; exact .inl rfl)
  have HSA := Lib.hid (show ∀ ad, Ay = some ad → S ad.block from fun ad h => by rw [hS]; exact .inr ⟨ad, h, rfl⟩)
  have HSL := Lib.hid (show ∀ B, S B → B < w3.heap.size from fun B h => by
    rw [hS] at h
    rcases h with rfl | ⟨ad, h1, rfl⟩
    · omega
    · have := (hAy ad h1).2; omega)
  have BK3 := Lib.hid (show BkI (w.heap.size + 1) (w.heap.size + 1) S ms 0 w3 from BkI.start G3.out (Nat.le_refl _) (fun h => by
    rw [hS] at h
    rcases h with h | ⟨ad, h1, h2⟩
    · have := HZ2.out; omega
    · have := (hAy ad h1).1; have := HZ1.out; omega) (fun x hx => (hmb x (by rw [hx]; simp)).1))
  clear hpo hNy hb2 hIy hAy hprog hml hmb hs2 z3 hS E1 G1 G3 B1 HB3
  go_wp2_with fail
  rw [← hw3]
  clear hw3
  go_loopw [10] (fun x wr => LawI (w.heap.size + 1) (w.heap.size + 1) w2.heap.size S ms w3 x wr) (fun x _ => 2 - (intOf x).toNat)
  case atStart => exact ⟨0, rfl, by omega, BK3.out, fun B _ => rfl, Below.refl _ _⟩
  case round =>
    obtain ⟨k, rfl, hk, hbk, hkeep, hbel⟩ := hrel
    have Er := Lib.hid (E3.out.below hbel (by omega))
    have Yr := Lib.hid (show Blk wr w2.heap.size 24 #[.string cw, .slice Ay ms.length ky, .string cn, .string cd] from (hkeep _ HS8.out).trans Y3.out)
    have Ir := Lib.hid (show IntsIn wr wr.heap.size Ay ms.length ms from I3.out.same hbel.size (fun ad h => hkeep _ (HSA.out ad h)))
    have Br := Lib.hid (show Below w.heap.size w wr from B3.out.trans (hbel.mono (by omega)))
    have BKr := Lib.hid hbk
    have KEEP := Lib.hid hkeep
    have BEL := Lib.hid hbel
    have er_ := Er.out.cell
    have fr_ := Er.out.frozen
    have yr_ := Yr.out.cell
    clear hbk hkeep hbel
    by_cases hlt : k < 2
    · have t1 : decide ((k : Int) < 2) = true := by simp; omega
      go_wp2_with fail
      refine (KP.out _).mono ?_
      rintro e w4 ⟨⟨vx, rfl, hNx⟩, hb4⟩
      obtain ⟨Ax, kx, rfl, hIx⟩ := hNx.form
      obtain ⟨w5, hw5⟩ : ∃ w5, w5 = w4.alloc (.cells #[.string cw, .slice Ax ms.length kx, .string cn, .string cd] 24) := ⟨_, rfl⟩
      have hb5 : Below w4.heap.size w4 w5 := hw5 ▸ (Below.refl _ w4).alloc (Nat.le_refl _) _
      have X5 := Lib.hid (show Blk w5 w4.heap.size 24 #[.string cw, .slice Ax ms.length kx, .string cn, .string cd] from hw5 ▸ Blk.new w4 _ _)
      have y4 := (Yr.out.below hb4 Yr.out.lt)
      have Y5 := Lib.hid (y4.below hb5 y4.lt)
      have hb45 := hb4.trans (hb5.mono hb4.size)
      have KS := Lib.hid (same_any w5 cw cn cd Ax Ay ms.length kx ky ms ((hIx.below hb5).less hb5.size) ((Ir.out.below hb45).less hb45.size) (by have := HML.out; omega))
      have NX5 := Lib.hid (hNx.below hb5)
      have H45 := Lib.hid hb45
      have x4_ := (X5.out).cell
      have y5_ := (Y5.out).cell
      have q4 : (er != er) = false := by simp
      clear hb4 hb5 hb45 hIx hNx y4 er_ fr_ yr_
      rw [hw5] at x4_ y5_
      go_wp2_with (go_at_call 7; rw [← hw5]; refine KS.out.mono ?_; rintro e w6 ⟨rfl, hb6⟩; clear x4_ y5_; have X6 := Lib.hid (X5.out.below hb6 X5.out.lt); have x6_ := X6.out.cell; have H6 := Lib.hid (H45.out.trans (hb6.mono H45.out.size)); have NX6 := Lib.hid (NX5.out.below hb6); clear hb6)
      refine (BKr.out.ints (by omega) NX6.out H6.out (fun B h => by have := HSL.out B h; have := BEL.out.size; omega)).mono ?_
      rintro e w7 ⟨rfl, hbk7, hbel7, hkeep7⟩
      have L7 := Lib.hid (show LawI (w.heap.size + 1) (w.heap.size + 1) w2.heap.size S ms w3 (.int .i64 ((k : Int) + 1)) w7 from ⟨k + 1, by go_num, by omega, hbk7, fun B h => (hkeep7 B h).trans ((H6.out.block B (by have := HSL.out B h; have := BEL.out.size; omega)).trans (KEEP.out B h)), (BEL.out.trans (H6.out.mono (by have := BEL.out.size; have := HZ3.out; have := HZ2.out; omega))).trans hbel7⟩)
      clear hbk7 hbel7 hkeep7 x6_
      go_wp2_with fail
      go_roundw
      case rel => exact L7.out
      case measure => simp [intOf]; omega
    · obtain rfl : k = 2 := by omega
      clear Yr yr_ Ir KEEP KP HS8 HSA I3 Y3 BK3
      have Ir := Lib.hid (show IntsIn wr wr.heap.size A m ns from (HI.out.below Br.out).less Br.out.size)
      go_wp2_with fail
      obtain ⟨w4, hw4⟩ : ∃ w4, w4 = wr.alloc (.cells #[.string word, .slice A m cp, .string name, .string data] 24) := ⟨_, rfl⟩
      rw [← hw4]
      have hb4 : Below wr.heap.size wr w4 := hw4 ▸ (Below.refl _ wr).alloc (Nat.le_refl _) _
      have D4 := Lib.hid (show Blk w4 wr.heap.size 24 #[.string word, .slice A m cp, .string name, .string data] from hw4 ▸ Blk.new wr _ _)
      have E4 := Lib.hid (Er.out.below hb4 Er.out.lt)
      have B4 := Lib.hid (Br.out.trans (hb4.mono Br.out.size))
      have I4 := Lib.hid (show IntsIn w4 w4.heap.size A m ns from (Ir.out.below hb4).less hb4.size)
      have Z4 := Lib.hid (show w.heap.size + 1 ≤ wr.heap.size by have := BEL.out.size; have := HZ3.out; have := HZ2.out; omega)
      have W4 := Lib.hid hb4
      clear hw4 hb4 er_ fr_ Er Br Ir BEL
      refine wp_region_gen 9 [2, 3, 4, 8] (NegI w4 ns m) (by kernel_rfl) (by kernel_rfl) (NegI.start w4) ?_
      apply wpGen_pure rfl
      · intro L vs wx hI hR hL K hK
        go_simp
        exact hK _ (hI.pure (by decide) (by decide) (by decide) (by decide))
      intro KK hKK
      go_simp
      refine hKK _ ?_
      clear hKK KK
      apply wpGen_pure rfl
      · intro L vs wx hI hR hL K hK
        have c0 := fun i => (E4.out.stays hI.below).cell i
        go_simp
        exact hK _ (hI.pure (by decide) (by decide) (by decide) (by decide))
      intro KK hKK
      go_simp
      refine hKK _ ?_
      clear hKK KK
      refine wpGen_fact rfl ?_ ?_
      · intro L vs wx hI hR hL K hK
        rcases A with _ | ad
        · obtain ⟨rfl, rfl⟩ := HA.out rfl
          have hls : ns = [] := List.eq_nil_of_length_eq_zero I4.out.1
          subst hls
          exact stepF_append rfl (.const (.slice none 0 0)) (.tmp 69) 22 rfl rfl rfl (append_none wx _) (hK _ _ (hI.op2 hL (OwnN.nil _ _) (Stays.refl _)))
        · have hC : w4.heap.size ≤ wx.heap.size := hI.below.size
          obtain ⟨v', w', hr, ho, hb, hg⟩ := append_own wx 22 w4.heap.size (.slice none 0 0) [] (OwnN.nil _ _) ad m cp ns I4.out.1 (fun j u hu => by
            have hj : 0 < m := by
              rcases Nat.eq_zero_or_pos m with h0 | h0
              · have : ns = [] := List.eq_nil_of_length_eq_zero (by rw [I4.out.1, h0])
                rw [this] at hu; simp at hu
              · exact h0
            obtain ⟨ad', e, _, hc⟩ := (I4.out.below hI.below).2 hj
            cases e
            exact hc j u hu) (by simp; omega) hC
          exact stepF_append rfl (.const (.slice none 0 0)) (.tmp 69) 22 rfl rfl rfl hr (hK _ _ (hI.op2 hL ho ⟨hg.os, hg.tape, hg.output, hg.size, fun k hk => hg.block k hk (by simp [Value.ownBlock])⟩))
      intro KK hKK
      go_simp
      refine hKK _ ?_
      clear hKK KK
      refine wpGen_fact rfl ?_ ?_
      · intro L vs wx hI hR hL K hK
        go_simp
        exact hK _ _ (hI.op3 hL)
      intro KK hKK
      go_simp
      refine hKK _ ?_
      clear hKK KK
      refine wpGen_fact rfl ?_ ?_
      · intro L vs wx hI hR hL K hK
        have h2 := hR 2 (by kernel_rfl)
        have h3 := hR 3 (by kernel_rfl)
        obtain ⟨g, e3, hk3⟩ := hI.three h3 hL
        obtain ⟨v', w', hr, ho, hb, -⟩ := append_own wx 22 w4.heap.size (vs 2) ns (hI.two h2 hL) ⟨g, 0, none⟩ 1 1 [-77] rfl (fun j u hu => by
          rw [Addr.add_lit, Nat.zero_add, hk3.cell]
          cases j with
          | zero => simp at hu; subst hu; rfl
          | succ j => simp at hu) (by rw [I4.out.1]; omega) hI.below.size
        exact stepF_append rfl (.tmp 70) (.tmp 71) 22 rfl rfl (by rw [← e3]; rfl) hr (hK _ _ (hI.op4 hL h2 h3 ho hb))
      intro KK hKK
      go_simp
      refine hKK _ ?_
      clear hKK KK
      apply wpGen_pure rfl
      · intro L vs wx hI hR hL K hK
        go_simp
        exact hK _ (hI.pure (by decide) (by decide) (by decide) (by decide))
      intro KK hKK
      go_simp
      refine hKK _ ?_
      clear hKK KK
      apply wpGen_pure rfl
      · intro L vs wx hI hR hL K hK
        have c0 := fun i => (E4.out.stays hI.below).cell i
        go_simp
        exact hK _ (hI.pure (by decide) (by decide) (by decide) (by decide))
      intro KK hKK
      go_simp
      refine hKK _ ?_
      clear hKK KK
      apply wpGen_pure rfl
      · intro L vs wx hI hR hL K hK
        go_simp
        exact hK _ (hI.pure (by decide) (by decide) (by decide) (by decide))
      intro KK hKK
      go_simp
      refine hKK _ ?_
      clear hKK KK
      refine wpGen_fact rfl ?_ ?_
      · intro L vs wx hI hR hL K hK
        have h4 := hR 4 (by kernel_rfl)
        obtain ⟨g, cap, e4, -, -, hcap, -, -⟩ := (hI.four h4).form (by simp)
        have e4 : vs 4 = .slice (some ⟨g, 0, none⟩) (m + 1) cap := by rw [e4, List.length_append, I4.out.1]; rfl
        have hcap : m ≤ cap := by rw [List.length_append, I4.out.1] at hcap; omega
        go_simp
        exact hK _ _ (hI.op8 h4 e4)
      intro KK hKK
      go_simp
      refine hKK _ ?_
      clear hKK KK
      refine wpGen_nil ?_
      intro vs w5 hI5
      obtain ⟨g, cap, e4, e8⟩ := hI5.eight (by decide)
      have o5 := hI5.four (by decide)
      rw [e4] at o5
      obtain ⟨g', cap', eq', hg1, hg2, hcap, hcm, hcell⟩ := o5.form (by simp)
      injection eq' with eq1 eq2 eq3
      injection eq1 with eq1
      injection eq1 with eq1
      subst eq1 eq3
      clear eq2
      rw [List.length_append, I4.out.1] at hcap
      replace hcap : m + 1 ≤ cap := hcap
      have hb5 := hI5.below
      intro KK hKK
      rw [e8]
      simp only [List.drop_succ_cons, List.drop_zero]
      have d5 := D4.out.below hb5 D4.out.lt
      have D6 := Lib.hid (d5.set_ 1 (.slice (some ⟨g, 0, none⟩) m cap))
      have hgd : g ≠ wr.heap.size := by have := D4.out.lt; omega
      have d5_ := d5.cell
      have f5_ := d5.frozen
      have HC5 := Lib.hid hcell
      have HG5 := Lib.hid hg1
      have HG6 := Lib.hid hg2
      have HB5 := Lib.hid hb5
      have E5 := Lib.hid (E4.out.below hb5 E4.out.lt)
      obtain ⟨w6, hw6⟩ : ∃ w6, w6 = w5.setCell ⟨wr.heap.size, 1, none⟩ (.slice (some ⟨g, 0, none⟩) m cap) := ⟨_, rfl⟩
      have D6 := Lib.hid (show Blk w6 wr.heap.size 24 #[.string word, .slice (some ⟨g, 0, none⟩) m cap, .string name, .string data] from hw6 ▸ D6.out)
      have hsz6 : w6.heap.size = w5.heap.size := by rw [hw6]; simp
      have hoth : ∀ B, B ≠ wr.heap.size → w6.heap[B]? = w5.heap[B]? := fun B hB => by rw [hw6]; exact Below.heap_setCell _ _ _ _ (by simpa using hB)
      have C6 := Lib.hid (show ∀ (j : Nat) x, (ns ++ [-77])[j]? = some x → w6.cell? ⟨g, j, none⟩ = some (.int .i64 x) from fun j x hx => (World.cell?_of_block (hoth g hgd)).trans (HC5.out j x hx))
      have E6 := Lib.hid (show Blk w6 w.heap.size 24 #[.string word, .slice A m cp, .string name, .string data] from (hoth _ (by have := Z4.out; omega)).trans E5.out)
      have BW6 := Lib.hid (show Below wr.heap.size w5 w6 from hw6 ▸ (Below.refl _ w5).setCell (p := ⟨wr.heap.size, 1, none⟩) (Nat.le_refl _) _)
      have B6 := Lib.hid (show Below w.heap.size w w6 from (B4.out.trans (hb5.mono B4.out.size)).trans (BW6.out.mono (by have := Z4.out; omega)))
      have BK6 := Lib.hid (BKr.out.below ((W4.out.trans (hb5.mono W4.out.size)).trans BW6.out))
      have I6 := Lib.hid (show IntsIn w6 w6.heap.size (some ⟨g, 0, none⟩) m ns from ⟨I4.out.1, fun _ => ⟨_, rfl, by show g < w6.heap.size; omega, fun j x hj => by
        rw [Addr.add_lit, Nat.zero_add]
        exact C6.out j x (by rw [List.getElem?_append_left (List.getElem?_eq_some_iff.1 hj).1]; exact hj)⟩⟩)
      have J6 := Lib.hid (show IntsIn w6 w6.heap.size A m ns from by
        have h5 : IntsIn w5 w5.heap.size A m ns := (I4.out.below hb5).less hb5.size
        refine ⟨h5.1, fun hm0 => ?_⟩
        obtain ⟨ad, e, h1, h2⟩ := h5.2 hm0
        obtain ⟨ad', e', h1', h2'⟩ := HI.out.2 hm0
        rw [e] at e'
        cases e'
        have hne : ad.block ≠ wr.heap.size := by
          have := Z4.out
          omega
        exact ⟨ad, e, by omega, fun j x hj => (World.cell?_of_block (by rw [block_of_add]; exact hoth _ hne)).trans (h2 j x hj)⟩)
      have M6 := Lib.hid (show w6.cell? ⟨g, m, none⟩ = some (.int .i64 (-77)) from C6.out m (-77) (by rw [← I4.out.1]; simp))
      have d6_ := D6.out.cell
      have e6_ := E6.out.cell
      clear hI5 o5 e4 e8 hcell hg1 hg2 hb5 d5 hoth hgd hsz6
      go_wp2_with fail
      rw [← hw6]
      clear hw6 d5_ f5_
      refine (print_any w6 word name data (some ⟨g, 0, none⟩) m cap ns I6.out HRB.out).mono ?_
      rintro e w7 ⟨hp1, hb7⟩
      obtain ⟨s, er2, rfl, hsame⟩ := hp1.only
      have SAME := Lib.hid hsame
      have E7 := Lib.hid (E6.out.below hb7 E6.out.lt)
      have D7 := Lib.hid (D6.out.below hb7 D6.out.lt)
      have e7_ := E7.out.cell
      have H7 := Lib.hid hb7
      have KR := Lib.hid (refPrint_any w7 word name data A m cp ns ((J6.out.below hb7).less hb7.size) HRB.out (by have := HM.out; omega) HND.out)
      clear hp1 hsame hb7 d6_ e6_
      go_wp2_with fail
      refine KR.out.mono ?_
      rintro e w8 ⟨hp2, hb8⟩
      obtain rfl := SAME.out e hp2
      have E8 := Lib.hid (E7.out.below hb8 E7.out.lt)
      have D8 := Lib.hid (D7.out.below hb8 D7.out.lt)
      have H8 := Lib.hid (H7.out.trans (hb8.mono H7.out.size))
      have IA := Lib.hid (show IntsIn w8 w8.heap.size A m ns from (J6.out.below H8.out).less H8.out.size)
      have ID := Lib.hid (show IntsIn w8 w8.heap.size (some ⟨g, 0, none⟩) m ns from (I6.out.below H8.out).less H8.out.size)
      have M8 := Lib.hid (show w8.cell? ⟨g, m, none⟩ = some (.int .i64 (-77)) from (H8.out.cell (p := ⟨g, m, none⟩) (by show g < w6.heap.size; have := BW6.out.size; have := HG6.out; omega)).trans M6.out)
      have GL := Lib.hid (show g < w8.heap.size by have := BW6.out.size; have := HG6.out; have := H8.out.size; omega)
      have BK8 := Lib.hid (BK6.out.below H8.out)
      have B8 := Lib.hid (B6.out.trans (H8.out.mono B6.out.size))
      have hts : (s.toList == s.toList) = true := by simp
      have hte : (er2 == er2) = true := by simp
      clear hp2 hb8 e7_ KR
      go_wp2_with fail
      refine wp_region_free 46 [] Stays (fun _ => none) (by kernel_rfl) (by kernel_rfl) Stays.refl (by simp) (Stays.draw _) Stays.trans ?_ ?_
      · intro j φ v x y hB hp hxy
        cases hB
      · skip
        apply wpFree_pure rfl rfl
        · intro vs wx hk K hK
          go_simp
          first
            | exact hK _ (Stays.refl _)
            | go_at_call 4; refine (HAL.out _).mono ?_; rintro e w2 ⟨rfl, hb2⟩; exact ⟨_, rfl, hK _ hb2⟩
        intro KK hKK
        go_simp
        refine hKK _ ?_
        clear hKK KK
        apply wpFree_pure rfl rfl
        · intro vs wx hk K hK
          go_simp
          exact hK _ (Stays.refl _)
        intro KK hKK
        go_simp
        refine hKK _ ?_
        clear hKK KK
        apply wpFree_pure rfl rfl
        · intro vs wx hk K hK
          go_simp
          exact hK _ (Stays.refl _)
        intro KK hKK
        go_simp
        refine hKK _ ?_
        clear hKK KK
        apply wpFree_pure rfl rfl
        · intro vs wx hk K hK
          go_simp
          exact hK _ (Stays.refl _)
        intro KK hKK
        go_simp
        refine hKK _ ?_
        clear hKK KK
        apply wpFree_pure rfl rfl
        · intro vs wx hk K hK
          go_simp
          exact hK _ (Stays.refl _)
        intro KK hKK
        go_simp
        refine hKK _ ?_
        clear hKK KK
        apply wpFree_pure rfl rfl
        · intro vs wx hk K hK
          go_simp
          exact hK _ (Stays.refl _)
        intro KK hKK
        go_simp
        refine hKK _ ?_
        clear hKK KK
        apply wpFree_pure rfl rfl
        · intro vs wx hk K hK
          go_simp
          exact hK _ (Stays.refl _)
        intro KK hKK
        go_simp
        refine hKK _ ?_
        clear hKK KK
        apply wpFree_pure rfl rfl
        · intro vs wx hk K hK
          go_simp
          exact hK _ (Stays.refl _)
        intro KK hKK
        go_simp
        refine hKK _ ?_
        clear hKK KK
        apply wpFree_pure rfl rfl
        · intro vs wx hk K hK
          go_simp
          exact hK _ (Stays.refl _)
        intro KK hKK
        go_simp
        refine hKK _ ?_
        clear hKK KK
        apply wpFree_pure rfl rfl
        · intro vs wx hk K hK
          go_simp
          exact hK _ (Stays.refl _)
        intro KK hKK
        go_simp
        refine hKK _ ?_
        clear hKK KK
        apply wpFree_pure rfl rfl
        · intro vs wx hk K hK
          go_simp
          exact hK _ (Stays.refl _)
        intro KK hKK
        go_simp
        refine hKK _ ?_
        clear hKK KK
        apply wpFree_pure rfl rfl
        · intro vs wx hk K hK
          go_simp
          exact hK _ (Stays.refl _)
        intro KK hKK
        go_simp
        refine hKK _ ?_
        clear hKK KK
        apply wpFree_pure rfl rfl
        · intro vs wx hk K hK
          have c0 := fun i => (E8.out.stays hk.1).cell i
          go_simp
          exact hK _ (Stays.refl _)
        intro KK hKK
        go_simp
        refine hKK _ ?_
        clear hKK KK
        apply wpFree_pure rfl rfl
        · intro vs wx hk K hK
          have c0 := fun i => (D8.out.stays hk.1).cell i
          go_simp
          exact hK _ (Stays.refl _)
        intro KK hKK
        go_simp
        refine hKK _ ?_
        clear hKK KK
        apply wpFree_pure rfl rfl
        · intro vs wx hk K hK
          go_simp
          first
            | exact hK _ (Stays.refl _)
            | go_at_call 7; refine (same_any _ word name data A (some ⟨g, 0, none⟩) m cp cap ns ((IA.out.below hk.1).less hk.1.size) ((ID.out.below hk.1).less hk.1.size) (by have := HM.out; omega)).mono ?_; rintro e w2 ⟨rfl, hb2⟩; exact ⟨_, rfl, hK _ hb2⟩
        intro KK hKK
        go_simp
        refine hKK _ ?_
        clear hKK KK
        apply wpFree_pure rfl rfl
        · intro vs wx hk K hK
          go_simp
          exact hK _ (Stays.refl _)
        intro KK hKK
        go_simp
        refine hKK _ ?_
        clear hKK KK
        apply wpFree_pure rfl rfl
        · intro vs wx hk K hK
          go_simp
          exact hK _ (Stays.refl _)
        intro KK hKK
        go_simp
        refine hKK _ ?_
        clear hKK KK
        apply wpFree_pure rfl rfl
        · intro vs wx hk K hK
          go_simp
          exact hK _ (Stays.refl _)
        intro KK hKK
        go_simp
        refine hKK _ ?_
        clear hKK KK
        apply wpFree_pure rfl rfl
        · intro vs wx hk K hK
          have c0 := fun i => (D8.out.stays hk.1).cell i
          go_simp
          exact hK _ (Stays.refl _)
        intro KK hKK
        go_simp
        refine hKK _ ?_
        clear hKK KK
        apply wpFree_pure rfl rfl
        · intro vs wx hk K hK
          go_simp
          exact hK _ (Stays.refl _)
        intro KK hKK
        go_simp
        refine hKK _ ?_
        clear hKK KK
        apply wpFree_pure rfl rfl
        · intro vs wx hk K hK
          have c0 := fun i => (D8.out.stays hk.1).cell i
          go_simp
          exact hK _ (Stays.refl _)
        intro KK hKK
        go_simp
        refine hKK _ ?_
        clear hKK KK
        apply wpFree_pure rfl rfl
        · intro vs wx hk K hK
          go_simp
          exact hK _ (Stays.refl _)
        intro KK hKK
        go_simp
        refine hKK _ ?_
        clear hKK KK
        apply wpFree_pure rfl rfl
        · intro vs wx hk K hK
          have hwr : IntKind.i64.wrap ((m : Int) + 1) = (m : Int) + 1 := IntWalk.i64_in _ ⟨by omega, by omega⟩
          go_simp
          exact hK _ (Stays.refl _)
        intro KK hKK
        go_simp
        refine hKK _ ?_
        clear hKK KK
        apply wpFree_pure rfl rfl
        · intro vs wx hk K hK
          have hwr : IntKind.i64.wrap ((m : Int) + 1) = (m : Int) + 1 := IntWalk.i64_in _ ⟨by omega, by omega⟩
          have h0 : (0 : Int) ≤ (m : Int) + 1 := by omega
          have h1 : (m : Int) + 1 ≤ (cap : Int) := by omega
          go_simp
          exact hK _ (Stays.refl _)
        intro KK hKK
        go_simp
        refine hKK _ ?_
        clear hKK KK
        apply wpFree_pure rfl rfl
        · intro vs wx hk K hK
          go_simp
          exact hK _ (Stays.refl _)
        intro KK hKK
        go_simp
        refine hKK _ ?_
        clear hKK KK
        apply wpFree_pure rfl rfl
        · intro vs wx hk K hK
          have c0 := fun i => (D8.out.stays hk.1).cell i
          go_simp
          exact hK _ (Stays.refl _)
        intro KK hKK
        go_simp
        refine hKK _ ?_
        clear hKK KK
        apply wpFree_pure rfl rfl
        · intro vs wx hk K hK
          go_simp
          exact hK _ (Stays.refl _)
        intro KK hKK
        go_simp
        refine hKK _ ?_
        clear hKK KK
        apply wpFree_pure rfl rfl
        · intro vs wx hk K hK
          have h1 : (m : Int) < (m : Int) + 1 := by omega
          go_simp
          exact hK _ (Stays.refl _)
        intro KK hKK
        go_simp
        refine hKK _ ?_
        clear hKK KK
        apply wpFree_pure rfl rfl
        · intro vs wx hk K hK
          have c0 : wx.cell? ⟨g, m, none⟩ = some (.int .i64 (-77)) := (hk.1.cell (p := ⟨g, m, none⟩) GL.out).trans M8.out
          have c1 : wx.cell? ((⟨g, 0, none⟩ : Addr).add m) = some (.int .i64 (-77)) := by rw [Addr.add_lit, Nat.zero_add]; exact c0
          go_simp
          exact hK _ (Stays.refl _)
        intro KK hKK
        go_simp
        refine hKK _ ?_
        clear hKK KK
        apply wpFree_pure rfl rfl
        · intro vs wx hk K hK
          go_simp
          exact hK _ (Stays.refl _)
        intro KK hKK
        go_simp
        refine hKK _ ?_
        clear hKK KK
        apply wpFree_pure rfl rfl
        · intro vs wx hk K hK
          go_simp
          exact hK _ (Stays.refl _)
        intro KK hKK
        go_simp
        refine hKK _ ?_
        clear hKK KK
        apply wpFree_pure rfl rfl
        · intro vs wx hk K hK
          go_simp
          exact hK _ (Stays.refl _)
        intro KK hKK
        go_simp
        refine hKK _ ?_
        clear hKK KK
        apply wpFree_pure rfl rfl
        · intro vs wx hk K hK
          go_simp
          exact hK _ (Stays.refl _)
        intro KK hKK
        go_simp
        refine hKK _ ?_
        clear hKK KK
        apply wpFree_pure rfl rfl
        · intro vs wx hk K hK
          go_simp
          first
            | exact hK _ (Stays.refl _)
            | go_at_call 11; refine (admState_any n _).mono ?_; rintro e w2 ⟨rfl, hb2⟩; exact ⟨_, rfl, hK _ hb2⟩
        intro KK hKK
        go_simp
        refine hKK _ ?_
        clear hKK KK
        apply wpFree_pure rfl rfl
        · intro vs wx hk K hK
          go_simp
          exact hK _ (Stays.refl _)
        intro KK hKK
        go_simp
        refine hKK _ ?_
        clear hKK KK
        apply wpFree_pure rfl rfl
        · intro vs wx hk K hK
          go_simp
          first
            | exact hK _ (Stays.refl _)
            | go_at_call 12; refine (refState_any n _).mono ?_; rintro e w2 ⟨rfl, hb2⟩; exact ⟨_, rfl, hK _ hb2⟩
        intro KK hKK
        go_simp
        refine hKK _ ?_
        clear hKK KK
        apply wpFree_pure rfl rfl
        · intro vs wx hk K hK
          go_simp
          exact hK _ (Stays.refl _)
        intro KK hKK
        go_simp
        refine hKK _ ?_
        clear hKK KK
        apply wpFree_pure rfl rfl
        · intro vs wx hk K hK
          go_simp
          exact hK _ (Stays.refl _)
        intro KK hKK
        go_simp
        refine hKK _ ?_
        clear hKK KK
        apply wpFree_pure rfl rfl
        · intro vs wx hk K hK
          go_simp
          exact hK _ (Stays.refl _)
        intro KK hKK
        go_simp
        refine hKK _ ?_
        clear hKK KK
        apply wpFree_pure rfl rfl
        · intro vs wx hk K hK
          go_simp
          exact hK _ (Stays.refl _)
        intro KK hKK
        go_simp
        refine hKK _ ?_
        clear hKK KK
        apply wpFree_pure rfl rfl
        · intro vs wx hk K hK
          go_simp
          first
            | exact hK _ (Stays.refl _)
            | go_at_call 13; refine (admStatus_any n _).mono ?_; rintro e w2 ⟨rfl, hb2⟩; exact ⟨_, rfl, hK _ hb2⟩
        intro KK hKK
        go_simp
        refine hKK _ ?_
        clear hKK KK
        apply wpFree_pure rfl rfl
        · intro vs wx hk K hK
          go_simp
          exact hK _ (Stays.refl _)
        intro KK hKK
        go_simp
        refine hKK _ ?_
        clear hKK KK
        apply wpFree_pure rfl rfl
        · intro vs wx hk K hK
          go_simp
          first
            | exact hK _ (Stays.refl _)
            | go_at_call 14; refine (refStatus_any n _).mono ?_; rintro e w2 ⟨rfl, hb2⟩; exact ⟨_, rfl, hK _ hb2⟩
        intro KK hKK
        go_simp
        refine hKK _ ?_
        clear hKK KK
        apply wpFree_pure rfl rfl
        · intro vs wx hk K hK
          go_simp
          exact hK _ (Stays.refl _)
        intro KK hKK
        go_simp
        refine hKK _ ?_
        clear hKK KK
        apply wpFree_pure rfl rfl
        · intro vs wx hk K hK
          go_simp
          exact hK _ (Stays.refl _)
        intro KK hKK
        go_simp
        refine hKK _ ?_
        clear hKK KK
        apply wpFree_pure rfl rfl
        · intro vs wx hk K hK
          go_simp
          exact hK _ (Stays.refl _)
        intro KK hKK
        go_simp
        refine hKK _ ?_
        clear hKK KK
        refine wpFree_nil ?_
        intro vs w9 hs9 hf9
        have BK9 := Lib.hid (BK8.out.below hs9)
        have B9 := Lib.hid (B8.out.trans (hs9.mono B8.out.size))
        clear hf9 hs9
        intro KK hKK
        simp only [List.drop_succ_cons, List.drop_zero]
        go_wp2_with fail
        refine BK9.out.apart.mono ?_
        rintro e w10 ⟨rfl, hb10⟩
        go_wp2_with fail
        go_ret
        exact ⟨rfl, B9.out.trans (hb10.mono (by omega))⟩
end Go.Proofs.YtmabpnmnppfgaaaGreatDoor
