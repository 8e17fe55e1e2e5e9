/- What PruneOld returns: true. -/
import Derived.Test.YtjbhlojfmcldjaaOld1
import Derived.Test.YtjbhlojfmcldjaaPr15
namespace Go.Proofs.Ytjbhlojfmcldjaa
set_option linter.unusedVariables false
open Go.RowKit Go.BigFrame
namespace P
theorem due_one (now ret : Int) (r : RowV) : (due now ret [r]).length = if mayGo now ret r = true then 1 else 0 := by
  unfold due
  cases h : mayGo now ret r <;> simp [h]
theorem due_zero (now : Int) (r : RowV) : (due now 0 [r]).length = 0 := by
  rw [due_one]
  have : mayGo now 0 r = false := by unfold mayGo; rfl
  rw [this]; rfl
theorem mayGo_more {now ret more : Int} {r : RowV} (h0 : 1 ≤ ret) (h1 : 0 ≤ now) (h2 : 0 ≤ more) (h : mayGo now ret r = true) : mayGo (now + more) ret r = true ∧ terminal r.state r.legs = true ∧ 0 ≤ r.done := by
  rcases mayGo_key now ret r with ⟨_, hg⟩ | ⟨_, _, hg⟩ | ⟨_, _, _, hg⟩ | ⟨_, _, _, _, hg⟩ | ⟨t1, t2, t3, t4, _⟩
  · rw [h] at hg; cases hg
  · rw [h] at hg; cases hg
  · rw [h] at hg; cases hg
  · rw [h] at hg; cases hg
  · refine ⟨?_, t2, t3⟩
    unfold mayGo
    rw [t1, t2]
    unfold old at t4 ⊢
    rw [if_neg (by omega), if_neg (by omega)] at t4 ⊢
    simp at t4 ⊢
    omega
theorem mayGo_at {ret : Int} {r : RowV} (h0 : 1 ≤ ret) (h : terminal r.state r.legs = true) (h1 : 0 ≤ r.done) : mayGo (r.done + ret) ret r = true ∧ mayGo (r.done + ret - 1) ret r = false := by
  unfold mayGo old
  rw [h, if_neg (by omega), if_neg (by omega), if_neg (by omega), if_neg (by omega)]
  constructor
  · simp; omega
  · simp; omega
/-- Which test of the bounds fails first. -/
theorem first7 (a b c d e f g : Bool) : (a = true) ∨ (a = false ∧ b = true) ∨ (a = false ∧ b = false ∧ c = true) ∨ (a = false ∧ b = false ∧ c = false ∧ d = true) ∨ (a = false ∧ b = false ∧ c = false ∧ d = false ∧ e = true) ∨ (a = false ∧ b = false ∧ c = false ∧ d = false ∧ e = false ∧ f = true)
    ∨ (a = false ∧ b = false ∧ c = false ∧ d = false ∧ e = false ∧ f = false ∧ g = true) ∨ (a = false ∧ b = false ∧ c = false ∧ d = false ∧ e = false ∧ f = false ∧ g = false) := by
  cases a <;> cases b <;> cases c <;> cases d <;> cases e <;> cases f <;> cases g <;> simp
end P
/-- A list of one row, and its length alone, of what Due tells. -/
theorem dueOne_any (r : P.RowV) (now ret : Int) (g : Nat) (w : World) (h : RowsAt w (g + 1) (some ⟨g, 0, none⟩) 1 [r]) (hg : g < w.heap.size) (hd : (Lit.int .i64 r.done).wf = true) (h2 : -9223372036854775808 ≤ now) (h3 : now ≤ 9223372036854775807) (h4 : -9223372036854775808 ≤ ret) (h5 : ret ≤ 9223372036854775807) (k : Nat) (hk : (P.due now ret [r]).length = k) :
    Calls Try.prog 13 #[.slice (some ⟨g, 0, none⟩) 1 1, .int .i64 now, .int .i64 ret] w fun x w' => (∃ A c, x = .returned (.slice A k c)) ∧ Stays w w' := by
  refine (due_any (some ⟨g, 0, none⟩) 1 1 [r] now ret (g + 1) w h hg (by omega) (fun x hx => ?_) h2 h3 h4 h5).mono ?_
  · obtain rfl : x = r := by simpa using hx
    exact hd
  · rintro x w' ⟨v, rfl, ho, hb⟩
    obtain ⟨A, c, rfl⟩ := ho.form
    rw [hk]
    exact ⟨⟨A, c, rfl⟩, hb⟩
/-- The row of the arguments, newly laid as a list. -/
theorem rowsOne {w : World} {id run tm st dn flt : Int} {raw : ByteArray} {A : Option Addr} {m cp : Nat} {ls : List P.Leg} (h : LegsAt w w.heap.size A m ls) (hm : m ≤ maxLen) :
    RowsAt (w.alloc (.cells #[.int .i64 id, .int .i64 run, .int .i64 tm, .int .i64 st, .int .i64 dn, .string raw, .int .i64 flt, .slice A m cp] 25)) (w.heap.size + 1) (some ⟨w.heap.size, 0, none⟩) 1 [⟨id, run, tm, st, dn, raw, flt, A, m, cp, ls⟩] :=
  RowsAt.one (w := w) ⟨id, run, tm, st, dn, raw, flt, A, m, cp, ls⟩ h hm (Nat.le_refl _)
set_option maxRecDepth 100000 in
set_option maxHeartbeats 4000000 in
theorem pruneOld_any (id run tm st dn flt : Int) (raw : ByteArray) (A : Option Addr) (m cp : Nat) (ls : List P.Leg) (now ret more : Int) (B : Nat) (w : World)
    (ha : LegsAt w B A m ls) (hB : B ≤ w.heap.size) (hm : m ≤ maxLen) (hdw : (Lit.int .i64 dn).wf = true) :
    Calls Try.prog 5 #[.agg #[.int .i64 id, .int .i64 run, .int .i64 tm, .int .i64 st, .int .i64 dn, .string raw, .int .i64 flt, .slice A m cp], .int .i64 now, .int .i64 ret, .int .i64 more] w fun e w' => e = .returned (.bool true) ∧ Below w.heap.size w w' := by
  have hbel := (Below.refl w.heap.size w).alloc (Nat.le_refl _) (.cells #[.int .i64 id, .int .i64 run, .int .i64 tm, .int .i64 st, .int .i64 dn, .string raw, .int .i64 flt, .slice A m cp] 25)
  have k0 := Blk.new w 25 #[.int .i64 id, .int .i64 run, .int .i64 tm, .int .i64 st, .int .i64 dn, .string raw, .int .i64 flt, .slice A m cp]
  have BB := Lib.hid hbel
  have K0 := Lib.hid k0
  have HA := Lib.hid ((ha.below (hbel.mono hB)).more (Nat.le_trans hB hbel.size))
  have AL := Lib.hid (fun W => alive_any W)
  have hm' := hm
  unfold maxLen at hm'
  have hdb := bounds_i64 hdw
  have hd1 : dn ≤ 9223372036854775807 := by omega
  have HDW := Lib.hid hdw
  clear ha k0 hbel hdb hdw
  rcases P.first7 (decide (ret < 1)) (decide (1099511627776 < ret)) (decide (now < 0)) (decide (1099511627776 < now)) (decide (more < 0)) (decide (1099511627776 < more)) (decide ((40 : Int) < (m : Int))) with t1 | ⟨t1, t2⟩ | ⟨t1, t2, t3⟩ | ⟨t1, t2, t3, t4⟩ | ⟨t1, t2, t3, t4, t5⟩ | ⟨t1, t2, t3, t4, t5, t6⟩ | ⟨t1, t2, t3, t4, t5, t6, t7⟩ | ⟨t1, t2, t3, t4, t5, t6, t7⟩
  all_goals
    go_enter Try.func5, Try.ntmps5
    go_wp2_with fail
  iterate 7
    · refine (AL.out _).mono ?_
      rintro x w2 ⟨rfl, hb2⟩
      have B2 := Lib.hid (BB.out.trans (hb2.mono BB.out.size))
      clear hb2
      go_wp2
      go_ret
      exact ⟨rfl, B2.out⟩
  have x1 : 1 ≤ ret := by simpa using t1
  have x2 : ret ≤ 1099511627776 := by simpa using t2
  have x3 : 0 ≤ now := by simpa using t3
  have x4 : now ≤ 1099511627776 := by simpa using t4
  have x5 : 0 ≤ more := by simpa using t5
  have x6 : more ≤ 1099511627776 := by simpa using t6
  clear t1 t2 t3 t4 t5 t6 t7
  have hwr : IntKind.i64.wrap (now + more) = now + more := IntWalk.i64_in _ ⟨by omega, by omega⟩
  obtain ⟨na, hna⟩ : ∃ na, (P.due now ret [⟨id, run, tm, st, dn, raw, flt, A, m, cp, ls⟩]).length = na := ⟨_, rfl⟩
  obtain ⟨nb, hnb⟩ : ∃ nb, (P.due (now + more) ret [⟨id, run, tm, st, dn, raw, flt, A, m, cp, ls⟩]).length = nb := ⟨_, rfl⟩
  have DU := Lib.hid (fun (g : Nat) (W : World) (nw rt : Int) (k : Nat) (hg : g < W.heap.size) (hr : RowsAt W (g + 1) (some ⟨g, 0, none⟩) 1 [⟨id, run, tm, st, dn, raw, flt, A, m, cp, ls⟩]) b1 b2 b3 b4 (hk : (P.due nw rt [⟨id, run, tm, st, dn, raw, flt, A, m, cp, ls⟩]).length = k) => dueOne_any ⟨id, run, tm, st, dn, raw, flt, A, m, cp, ls⟩ nw rt g W hr hg HDW.out b1 b2 b3 b4 k hk)
  have DA := Lib.hid (fun g W hg hr => DU.out g W now ret na hg hr (by omega) (by omega) (by omega) (by omega) hna)
  have DB := Lib.hid (fun g W hg hr => DU.out g W (now + more) ret nb hg hr (by omega) (by omega) (by omega) (by omega) hnb)
  have DZ := Lib.hid (fun g W hg hr => DU.out g W now 0 0 hg hr (by omega) (by omega) (by omega) (by omega) (P.due_zero _ _))
  have key : (na = 1 ∧ nb = 1 ∧ P.terminal st ls = true ∧ 0 ≤ dn ∧ 1099511627776 < dn) ∨ (na = 1 ∧ nb = 1 ∧ P.terminal st ls = true ∧ 0 ≤ dn ∧ dn ≤ 1099511627776) ∨ (na = 0 ∧ P.terminal st ls = false) ∨ (na = 0 ∧ P.terminal st ls = true ∧ dn < 0) ∨ (na = 0 ∧ P.terminal st ls = true ∧ 0 ≤ dn ∧ 1099511627776 < dn) ∨ (na = 0 ∧ P.terminal st ls = true ∧ 0 ≤ dn ∧ dn ≤ 1099511627776) := by
    rw [P.due_one] at hna hnb
    cases hg : P.mayGo now ret ⟨id, run, tm, st, dn, raw, flt, A, m, cp, ls⟩
    · rw [hg] at hna
      have hna : 0 = na := hna
      cases hT : P.terminal st ls
      · exact Or.inr (Or.inr (Or.inl ⟨hna.symm, rfl⟩))
      · by_cases h1 : dn < 0
        · exact Or.inr (Or.inr (Or.inr (Or.inl ⟨hna.symm, rfl, h1⟩)))
        · by_cases h2 : 1099511627776 < dn
          · exact Or.inr (Or.inr (Or.inr (Or.inr (Or.inl ⟨hna.symm, rfl, by omega, h2⟩))))
          · exact Or.inr (Or.inr (Or.inr (Or.inr (Or.inr ⟨hna.symm, rfl, by omega, by omega⟩))))
    · rw [hg] at hna
      have hna : 1 = na := hna
      obtain ⟨hm2, hT, h0⟩ := P.mayGo_more x1 x3 x5 hg
      rw [hm2] at hnb
      have hnb : 1 = nb := hnb
      by_cases h2 : 1099511627776 < dn
      · exact Or.inl ⟨hna.symm, hnb.symm, hT, h0, h2⟩
      · exact Or.inr (Or.inl ⟨hna.symm, hnb.symm, hT, h0, by omega⟩)
  have KEY := Lib.hid key
  clear hna hnb key
  refine wp_region_free 12 [] Stays (fun | 1 => some fun v w' => ∃ g, v = .slice (some ⟨g, 0, none⟩) 1 1 ∧ g < w'.heap.size ∧ RowsAt w' (g + 1) (some ⟨g, 0, none⟩) 1 [⟨id, run, tm, st, dn, raw, flt, A, m, cp, ls⟩] | 4 => some fun v _ => ∃ A' c, v = .slice A' na c | 6 => some fun v w' => ∃ g, v = .slice (some ⟨g, 0, none⟩) 1 1 ∧ g < w'.heap.size ∧ RowsAt w' (g + 1) (some ⟨g, 0, none⟩) 1 [⟨id, run, tm, st, dn, raw, flt, A, m, cp, ls⟩] | 11 => some fun v _ => ∃ A' c, v = .slice A' nb c | _ => none) (by kernel_rfl) (by kernel_rfl) Stays.refl (by simp) (Stays.draw _) Stays.trans ?_ ?_
  · intro j φ v x y hB hp hxy
    split at hB <;> cases hB
    · obtain ⟨g, hv, hg, hr⟩ := hp
      exact ⟨g, hv, Nat.lt_of_lt_of_le hg hxy.size, hr.below (hxy.mono hg)⟩
    · exact hp
    · obtain ⟨g, hv, hg, hr⟩ := hp
      exact ⟨g, hv, Nat.lt_of_lt_of_le hg hxy.size, hr.below (hxy.mono hg)⟩
    · exact hp
  · apply wpFree_pure rfl rfl
    · intro vs wx hk K hK
      have c3 := fun i => (K0.out.stays hk.1).cell i
      go_simp
      exact hK _ (Stays.refl _)
    intro KK hKK
    go_simp
    refine hKK _ ?_
    clear hKK KK
    refine wpFree_fact rfl ?_ ?_
    · intro vs wx hk K hK
      go_simp
      exact hK _ _ (Stays.alloc _ _) ⟨_, rfl, by simp, rowsOne ((HA.out.below hk.1).more hk.1.size) hm⟩
    intro KK hKK
    go_simp
    refine hKK _ ?_
    clear hKK KK
    apply wpFree_pure rfl rfl
    · intro vs wx hk K hK
      go_simp
      exact hK _ (Stays.refl _)
    intro KK hKK
    go_simp
    refine hKK _ ?_
    clear hKK KK
    apply wpFree_pure rfl rfl
    · intro vs wx hk K hK
      go_simp
      exact hK _ (Stays.refl _)
    intro KK hKK
    go_simp
    refine hKK _ ?_
    clear hKK KK
    refine wpFree_fact rfl ?_ ?_
    · intro vs wx hk K hK
      obtain ⟨g, hv, hg, hr⟩ := hk.2 1 _ rfl (by kernel_rfl)
      go_simp
      refine (DA.out g wx hg hr).mono ?_
      rintro x wy ⟨⟨A', c, rfl⟩, hby⟩
      exact ⟨_, rfl, hK _ _ hby ⟨A', c, rfl⟩⟩
    intro KK hKK
    go_simp
    refine hKK _ ?_
    clear hKK KK
    apply wpFree_pure rfl rfl
    · intro vs wx hk K hK
      have c3 := fun i => (K0.out.stays hk.1).cell i
      go_simp
      exact hK _ (Stays.refl _)
    intro KK hKK
    go_simp
    refine hKK _ ?_
    clear hKK KK
    refine wpFree_fact rfl ?_ ?_
    · intro vs wx hk K hK
      go_simp
      exact hK _ _ (Stays.alloc _ _) ⟨_, rfl, by simp, rowsOne ((HA.out.below hk.1).more hk.1.size) hm⟩
    intro KK hKK
    go_simp
    refine hKK _ ?_
    clear hKK KK
    apply wpFree_pure rfl rfl
    · intro vs wx hk K hK
      go_simp
      exact hK _ (Stays.refl _)
    intro KK hKK
    go_simp
    refine hKK _ ?_
    clear hKK KK
    apply wpFree_pure rfl rfl
    · intro vs wx hk K hK
      go_simp
      exact hK _ (Stays.refl _)
    intro KK hKK
    go_simp
    refine hKK _ ?_
    clear hKK KK
    apply wpFree_pure rfl rfl
    · intro vs wx hk K hK
      go_simp
      exact hK _ (Stays.refl _)
    intro KK hKK
    go_simp
    refine hKK _ ?_
    clear hKK KK
    apply wpFree_pure rfl rfl
    · intro vs wx hk K hK
      go_simp
      exact hK _ (Stays.refl _)
    intro KK hKK
    go_simp
    refine hKK _ ?_
    clear hKK KK
    refine wpFree_fact rfl ?_ ?_
    · intro vs wx hk K hK
      obtain ⟨g, hv, hg, hr⟩ := hk.2 6 _ rfl (by kernel_rfl)
      go_simp
      refine (DB.out g wx hg hr).mono ?_
      rintro x wy ⟨⟨A', c, rfl⟩, hby⟩
      exact ⟨_, rfl, hK _ _ hby ⟨A', c, rfl⟩⟩
    intro KK hKK
    go_simp
    refine hKK _ ?_
    clear hKK KK
    refine wpFree_nil ?_
    intro vs w6 hs6 hf6
    obtain ⟨Aa, ca, hga⟩ := hf6 4 _ (by omega) rfl
    obtain ⟨Ab, cb, hgb⟩ := hf6 11 _ (by omega) rfl
    have K6 := Lib.hid (K0.out.stays hs6)
    have L6 := Lib.hid ((HA.out.below hs6).more hs6.size)
    have B6 := Lib.hid (BB.out.trans (hs6.mono BB.out.size))
    clear hs6 hf6
    clear hwr
    intro KK hKK
    rw [hga, hgb]
    clear hga hgb
    simp only [List.drop_succ_cons, List.drop_zero]
    have TE := Lib.hid (fun W (hW : Stays w6 W) => terminal_any id run tm st dn flt raw A m cp ls W.heap.size W ((L6.out.below hW).more hW.size) (Nat.le_refl _) hm)
    have MA := Lib.hid (fun (h1 : P.terminal st ls = true) (h2 : 0 ≤ dn) => P.mayGo_at (ret := ret) (r := ⟨id, run, tm, st, dn, raw, flt, A, m, cp, ls⟩) x1 h1 h2)
    have c6 := fun i => K6.out.cell i
    rcases KEY.out with ⟨rfl, rfl, hT, h0, h2⟩ | ⟨rfl, rfl, hT, h0, h2⟩ | ⟨rfl, hT⟩ | ⟨rfl, hT, h0⟩ | ⟨rfl, hT, h0, h2⟩ | ⟨rfl, hT, h0, h2⟩
    all_goals
      go_wp2_with fail
      refine (DZ.out w6.heap.size _ (by simp) (rowsOne L6.out hm)).mono ?_
      rintro x w7 ⟨⟨A7, c7, rfl⟩, hb7⟩
      have S7 := Lib.hid ((Stays.alloc w6 _).trans hb7)
      clear hb7 c6
      have c7 := fun i => (K6.out.stays S7.out).cell i
      go_wp2_with fail
      refine (TE.out _ S7.out).mono ?_
      have HT := Lib.hid hT
      rw [hT]
      rintro x w8 ⟨rfl, hb8⟩
      have S8 := Lib.hid (S7.out.trans hb8)
      clear hb8 c7 hT
      have c8 := fun i => (K6.out.stays S8.out).cell i
    · have e1 : decide (dn < 0) = false := by simpa using h0
      have e2 : decide (1099511627776 < dn) = true := by simpa using h2
      go_wp2_with fail
      refine (AL.out _).mono ?_
      rintro x w9 ⟨rfl, hb9⟩
      have S9 := Lib.hid (S8.out.trans hb9)
      clear hb9 c8
      have c9 := fun i => (K6.out.stays S9.out).cell i
      go_wp2
      go_ret
      exact ⟨rfl, B6.out.trans (S9.out.mono B6.out.size)⟩
    · have e1 : decide (dn < 0) = false := by simpa using h0
      have e2 : decide (1099511627776 < dn) = false := by simpa using h2
      obtain ⟨g1, g2⟩ := MA.out HT.out h0
      have D1 := Lib.hid (fun g W hg hr => DU.out g W (dn + ret) ret 1 hg hr (by omega) (by omega) (by omega) (by omega) (by rw [P.due_one]; exact if_pos g1))
      have hw1 : IntKind.i64.wrap (dn + ret) = dn + ret := IntWalk.i64_in _ ⟨by omega, by omega⟩
      have hw2 : IntKind.i64.wrap (dn + ret - 1) = dn + ret - 1 := IntWalk.i64_in _ ⟨by omega, by omega⟩
      have D2 := Lib.hid (fun g W hg hr => DU.out g W (dn + ret - 1) ret 0 hg hr (by omega) (by omega) (by omega) (by omega) (by rw [P.due_one]; exact if_neg (Bool.eq_false_iff.1 g2)))
      clear g1 g2
      go_wp2_with fail
      refine (AL.out _).mono ?_
      rintro x w9 ⟨rfl, hb9⟩
      have S9 := Lib.hid (S8.out.trans hb9)
      have L9 := Lib.hid ((L6.out.below S9.out).more S9.out.size)
      clear hb9 c8
      have c9 := fun i => (K6.out.stays S9.out).cell i
      have c9a := fun i => ((K6.out.stays S9.out).alloc (.cells #[.int .i64 id, .int .i64 run, .int .i64 tm, .int .i64 st, .int .i64 dn, .string raw, .int .i64 flt, .slice A m cp] 25)).cell i
      go_wp2_with fail
      refine (D1.out w9.heap.size _ (by simp) (rowsOne L9.out hm)).mono ?_
      rintro x w10 ⟨⟨A10, c10, rfl⟩, hb10⟩
      have S10 := Lib.hid (S9.out.trans ((Stays.alloc w9 _).trans hb10))
      have L10 := Lib.hid ((L6.out.below S10.out).more S10.out.size)
      clear hb10 c9 c9a
      have c10 := fun i => (K6.out.stays S10.out).cell i
      have c10a := fun i => ((K6.out.stays S10.out).alloc (.cells #[.int .i64 id, .int .i64 run, .int .i64 tm, .int .i64 st, .int .i64 dn, .string raw, .int .i64 flt, .slice A m cp] 25)).cell i
      go_wp2_with fail
      refine (D2.out w10.heap.size _ (by simp) (rowsOne L10.out hm)).mono ?_
      rintro x w11 ⟨⟨A11, c11, rfl⟩, hb11⟩
      have S11 := Lib.hid (S10.out.trans ((Stays.alloc w10 _).trans hb11))
      clear hb11 c10 c10a
      go_wp2
      go_ret
      exact ⟨rfl, B6.out.trans (S11.out.mono B6.out.size)⟩
    · go_wp2_with fail
      refine (AL.out _).mono ?_
      rintro x w9 ⟨rfl, hb9⟩
      have S9 := Lib.hid (S8.out.trans hb9)
      clear hb9 c8
      have c9 := fun i => (K6.out.stays S9.out).cell i
      go_wp2
      go_ret
      exact ⟨rfl, B6.out.trans (S9.out.mono B6.out.size)⟩
    · have e1 : decide (dn < 0) = true := by simpa using h0
      go_wp2_with fail
      refine (AL.out _).mono ?_
      rintro x w9 ⟨rfl, hb9⟩
      have S9 := Lib.hid (S8.out.trans hb9)
      clear hb9 c8
      have c9 := fun i => (K6.out.stays S9.out).cell i
      go_wp2
      go_ret
      exact ⟨rfl, B6.out.trans (S9.out.mono B6.out.size)⟩
    · have e1 : decide (dn < 0) = false := by simpa using h0
      have e2 : decide (1099511627776 < dn) = true := by simpa using h2
      go_wp2_with fail
      refine (AL.out _).mono ?_
      rintro x w9 ⟨rfl, hb9⟩
      have S9 := Lib.hid (S8.out.trans hb9)
      clear hb9 c8
      have c9 := fun i => (K6.out.stays S9.out).cell i
      go_wp2
      go_ret
      exact ⟨rfl, B6.out.trans (S9.out.mono B6.out.size)⟩
    · have e1 : decide (dn < 0) = false := by simpa using h0
      have e2 : decide (1099511627776 < dn) = false := by simpa using h2
      obtain ⟨g1, g2⟩ := MA.out HT.out h0
      have D1 := Lib.hid (fun g W hg hr => DU.out g W (dn + ret) ret 1 hg hr (by omega) (by omega) (by omega) (by omega) (by rw [P.due_one]; exact if_pos g1))
      have hw1 : IntKind.i64.wrap (dn + ret) = dn + ret := IntWalk.i64_in _ ⟨by omega, by omega⟩
      have hw2 : IntKind.i64.wrap (dn + ret - 1) = dn + ret - 1 := IntWalk.i64_in _ ⟨by omega, by omega⟩
      have D2 := Lib.hid (fun g W hg hr => DU.out g W (dn + ret - 1) ret 0 hg hr (by omega) (by omega) (by omega) (by omega) (by rw [P.due_one]; exact if_neg (Bool.eq_false_iff.1 g2)))
      clear g1 g2
      go_wp2_with fail
      refine (AL.out _).mono ?_
      rintro x w9 ⟨rfl, hb9⟩
      have S9 := Lib.hid (S8.out.trans hb9)
      have L9 := Lib.hid ((L6.out.below S9.out).more S9.out.size)
      clear hb9 c8
      have c9 := fun i => (K6.out.stays S9.out).cell i
      have c9a := fun i => ((K6.out.stays S9.out).alloc (.cells #[.int .i64 id, .int .i64 run, .int .i64 tm, .int .i64 st, .int .i64 dn, .string raw, .int .i64 flt, .slice A m cp] 25)).cell i
      go_wp2_with fail
      refine (D1.out w9.heap.size _ (by simp) (rowsOne L9.out hm)).mono ?_
      rintro x w10 ⟨⟨A10, c10, rfl⟩, hb10⟩
      have S10 := Lib.hid (S9.out.trans ((Stays.alloc w9 _).trans hb10))
      have L10 := Lib.hid ((L6.out.below S10.out).more S10.out.size)
      clear hb10 c9 c9a
      have c10 := fun i => (K6.out.stays S10.out).cell i
      have c10a := fun i => ((K6.out.stays S10.out).alloc (.cells #[.int .i64 id, .int .i64 run, .int .i64 tm, .int .i64 st, .int .i64 dn, .string raw, .int .i64 flt, .slice A m cp] 25)).cell i
      go_wp2_with fail
      refine (D2.out w10.heap.size _ (by simp) (rowsOne L10.out hm)).mono ?_
      rintro x w11 ⟨⟨A11, c11, rfl⟩, hb11⟩
      have S11 := Lib.hid (S10.out.trans ((Stays.alloc w10 _).trans hb11))
      clear hb11 c10 c10a
      go_wp2
      go_ret
      exact ⟨rfl, B6.out.trans (S11.out.mono B6.out.size)⟩
end Go.Proofs.Ytjbhlojfmcldjaa
