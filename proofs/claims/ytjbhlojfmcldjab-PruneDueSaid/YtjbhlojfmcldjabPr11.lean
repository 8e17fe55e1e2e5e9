/- What slices.EqualFunc of legs, and prune.Forward return. -/
import Derived.Test.YtjbhlojfmcldjabPr10
namespace Go.Proofs.Ytjbhlojfmcldjab
set_option linter.unusedVariables false
open Go.RowKit Go.BigFrame
namespace P
theorem mayLegs_len : ∀ {a b : List Leg}, a.length ≠ b.length → mayLegs a b = false
  | [], [], h => absurd rfl h
  | [], y :: b, _ => rfl
  | x :: a, [], _ => rfl
  | x :: a, y :: b, h => by
    rw [mayLegs, mayLegs_len (fun e => h (by simp [e]))]
    simp
end P
set_option maxRecDepth 100000 in
set_option maxHeartbeats 2000000 in
theorem equalFunc_any (A : Option Addr) (m cp : Nat) (la : List P.Leg) (Ab : Option Addr) (mb cpb : Nat) (lb : List P.Leg) (g b nn B : Nat) (w : World) (ha : LegsAt w B A m la) (hb : LegsAt w B Ab mb lb) (hB : B ≤ w.heap.size) (hm : m ≤ maxLen) (hmb : mb ≤ maxLen)
    (hg : g < w.heap.size) (hc : w.cell? ⟨g, 0, none⟩ = some (.map (some b))) (hs : SetIs w 67 b nn MayGo) (hx : ∀ l ∈ la, (Lit.int .i64 l.status).wf = true) (hy : ∀ l ∈ lb, (Lit.int .i64 l.status).wf = true) :
    Calls Try.prog 32 #[.slice A m cp, .slice Ab mb cpb, .func (.func 33) #[] #[.pointer (some ⟨g, 0, none⟩)]] w fun e w' => e = .returned (.bool (P.mayLegs la lb)) ∧ Below w.heap.size w w' := by
  unfold maxLen at hm hmb
  have HA := Lib.hid ha
  have HB := Lib.hid hb
  by_cases hl : m = mb
  · subst hl
    have K := Lib.hid (fun W (hW : Below w.heap.size w W) x y hx hy => fwd1_any x y g b nn W (Nat.lt_of_lt_of_le hg hW.size) ((hW.cell (p := ⟨g, 0, none⟩) hg).trans hc) (hs.below hW hs.lt) hx hy)
    have HX := Lib.hid hx
    have HY := Lib.hid hy
    have t0 : ((m : Int) != (m : Int)) = false := by simp
    clear ha hb hc hs hx hy
    go_enter Try.func32, Try.ntmps32
    go_wp2_with fail
    go_loopw [17] (fun x wr => ∃ k : Nat, k ≤ m ∧ x = .int .i64 k ∧ P.mayLegs (la.drop k) (lb.drop k) = P.mayLegs la lb ∧ Below w.heap.size w wr) (fun x _ => m - (intOf x).toNat)
    case atStart => exact ⟨0, by omega, rfl, rfl, Below.refl _ _⟩
    case round =>
      obtain ⟨k, hk, rfl, hmay, hbel⟩ := hrel
      by_cases hlt : k < m
      · obtain ⟨ad, x, rfl, hxb, hxk, hxc⟩ := (HA.out.below (hbel.mono hB)).in_ hlt
        obtain ⟨ad2, y, rfl, hyb, hyk, hyc⟩ := (HB.out.below (hbel.mono hB)).in_ hlt
        have hb1 : ((hbel.alloc hbel.size (.cells #[.string x.name, .int .i64 x.status, .int .i64 x.tries, .int .i64 x.due, .string x.payload, .string x.reply] 40))) = ((hbel.alloc hbel.size (.cells #[.string x.name, .int .i64 x.status, .int .i64 x.tries, .int .i64 x.due, .string x.payload, .string x.reply] 40))) := rfl
        obtain ⟨e0, e1, e2, e3, e4, e5⟩ := hyc.keep (w' := wr.alloc (.cells #[.string x.name, .int .i64 x.status, .int .i64 x.tries, .int .i64 x.due, .string x.payload, .string x.reply] 40)) ((Below.refl wr.heap.size wr).alloc (Nat.le_refl _) _) (by have := hbel.size; omega)
        obtain ⟨c0, c1, c2, c3, c4, c5⟩ := hxc
        have HM := Lib.hid (show P.mayLegs la lb = (P.mayLeg x y && P.mayLegs (la.drop (k + 1)) (lb.drop (k + 1))) from by rw [← hmay, P.drop_at hxk, P.drop_at hyk, P.mayLegs])
        have hwx := HX.out x (List.mem_of_getElem? hxk)
        have hwy := HY.out y (List.mem_of_getElem? hyk)
        have B2 := Lib.hid ((hbel.alloc hbel.size (.cells #[.string x.name, .int .i64 x.status, .int .i64 x.tries, .int .i64 x.due, .string x.payload, .string x.reply] 40)).alloc (by have := hbel.size; simp; omega) (.cells #[.string y.name, .int .i64 y.status, .int .i64 y.tries, .int .i64 y.due, .string y.payload, .string y.reply] 40))
        clear hmay hxk hyk hyc hb1
        go_wp2_with fail
        refine (K.out _ B2.out x y hwx hwy).mono ?_
        rintro e w3 ⟨rfl, hb3⟩
        have B3 := Lib.hid (bt'' B2.out hb3)
        clear hb3
        cases hr : P.mayLeg x y
        · have HR := Lib.hid (show P.mayLegs la lb = false from by rw [HM.out, hr]; rfl)
          clear hr
          go_wp2
          go_ret
          rw [HR.out]
          exact ⟨rfl, B3.out⟩
        · have HR := Lib.hid (show P.mayLegs (la.drop (k + 1)) (lb.drop (k + 1)) = P.mayLegs la lb from by rw [HM.out, hr]; rfl)
          clear hr
          go_wp2
          go_roundw
          case rel => exact ⟨k + 1, by omega, by go_num, HR.out, B3.out⟩
          case measure => simp [intOf]; omega
      · have HR := Lib.hid (show P.mayLegs la lb = true from by rw [← hmay, List.drop_eq_nil_of_le (by have := HA.out.len; omega), List.drop_eq_nil_of_le (by have := HB.out.len; omega)]; rfl)
        clear hmay
        go_wp2
        go_ret
        rw [HR.out]
        exact ⟨rfl, hbel⟩
  · have HR := Lib.hid (P.mayLegs_len (a := la) (b := lb) (by rw [ha.len, hb.len]; exact hl))
    have t0 : ((m : Int) != (mb : Int)) = true := by rw [bne_iff_ne]; omega
    clear ha hb hc hs hx hy hl
    go_enter Try.func32, Try.ntmps32
    go_wp2
    go_ret
    rw [HR.out]
    exact ⟨rfl, Below.refl _ _⟩
end Go.Proofs.Ytjbhlojfmcldjab
