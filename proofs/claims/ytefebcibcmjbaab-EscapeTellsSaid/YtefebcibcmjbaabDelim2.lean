/- What delim.Valid and the reference's Valid return. -/
import Derived.Test.YtefebcibcmjbaabDelim1
namespace Go.Proofs.Ytefebcibcmjbaab
set_option linter.unusedVariables false
open Go.RowKit Go.BigFrame
abbrev dval (f c r e s : UInt8) : Value := .agg #[.int .u8 (f.toNat : Int), .int .u8 (c.toNat : Int), .int .u8 (r.toNat : Int), .int .u8 (e.toNat : Int), .int .u8 (s.toNat : Int)]
theorem small5 {p : Nat → Prop} (h : p 0 ∧ p 1 ∧ p 2 ∧ p 3 ∧ p 4) (n : Nat) (hn : n < 5) : p n := by
  obtain ⟨h0, h1, h2, h3, h4⟩ := h
  rcases (by omega : n = 0 ∨ n = 1 ∨ n = 2 ∨ n = 3 ∨ n = 4) with rfl | rfl | rfl | rfl | rfl <;> assumption
theorem index5 (f c r e s : UInt8) (W : World) (n : Nat) (hn : n < 5) : (Instr.index 37 (.agg #[.int .u8 (f.toNat : Int), .int .u8 (c.toNat : Int), .int .u8 (r.toNat : Int), .int .u8 (e.toNat : Int), .int .u8 (s.toNat : Int)]) (.int .i64 (n : Int))).run Try.prog W = .ok (.int .u8 ((([f, c, r, e, s].getD n 0).toNat : Nat) : Int)) W := by
  refine small5 (p := fun n => (Instr.index 37 (.agg #[.int .u8 (f.toNat : Int), .int .u8 (c.toNat : Int), .int .u8 (r.toNat : Int), .int .u8 (e.toNat : Int), .int .u8 (s.toNat : Int)]) (.int .i64 (n : Int))).run Try.prog W = .ok (.int .u8 ((([f, c, r, e, s].getD n 0).toNat : Nat) : Int)) W) ?_ n hn
  exact ⟨by kernel_rfl, by kernel_rfl, by kernel_rfl, by kernel_rfl, by kernel_rfl⟩
theorem delims_guard : Try.prog.eqGuardType Try.prog.depth 23 = false := by kernel_rfl
theorem delims_held : Try.prog.stoodInHeld 23 = false := by kernel_rfl
theorem delims_fields : ∃ g0 g1 g2 g3 g4 : Field, Try.prog.underlying 23 = some (.struct #[g0, g1, g2, g3, g4]) ∧ (g0.type = 5 ∧ g0.offset = 0 ∧ (g0.name ≠ "_")) ∧ (g1.type = 5 ∧ g1.offset = 1 ∧ (g1.name ≠ "_")) ∧ (g2.type = 5 ∧ g2.offset = 2 ∧ (g2.name ≠ "_")) ∧ (g3.type = 5 ∧ g3.offset = 3 ∧ (g3.name ≠ "_")) ∧ (g4.type = 5 ∧ g4.offset = 4 ∧ (g4.name ≠ "_")) :=
  ⟨_, _, _, _, _, Try.underlying23, ⟨rfl, rfl, by decide⟩, ⟨rfl, rfl, by decide⟩, ⟨rfl, rfl, by decide⟩, ⟨rfl, rfl, by decide⟩, ⟨rfl, rfl, by decide⟩⟩
theorem eql_delims (f c r e s f' c' r' e' s' : UInt8) (W : World) :
    (binOp .eql 23 (.agg #[.int .u8 (f.toNat : Int), .int .u8 (c.toNat : Int), .int .u8 (r.toNat : Int), .int .u8 (e.toNat : Int), .int .u8 (s.toNat : Int)]) (.agg #[.int .u8 (f'.toNat : Int), .int .u8 (c'.toNat : Int), .int .u8 (r'.toNat : Int), .int .u8 (e'.toNat : Int), .int .u8 (s'.toNat : Int)])).run Try.prog W = .ok (.bool (decide ([f, c, r, e, s] = [f', c', r', e', s']))) W := by
  obtain ⟨g0, g1, g2, g3, g4, hu, ⟨t0, o0, n0⟩, ⟨t1, o1, n1⟩, ⟨t2, o2, n2⟩, ⟨t3, o3, n3⟩, ⟨t4, o4, n4⟩⟩ := delims_fields
  have hf : Try.prog.fieldsOf 23 = #[g0, g1, g2, g3, g4] := by simp [Program.fieldsOf, hu]
  rw [run_eql_struct, run_equalIn_struct W 9999 _ _ _ (by rw [hu, hf]) delims_held, hf]
  have u : ∀ a b : UInt8, (((a.toNat : Nat) : Int) == ((b.toNat : Nat) : Int)) = decide (a = b) := fun a b => by
    rw [Bool.eq_iff_iff, beq_iff_eq, decide_eq_true_iff]
    exact ⟨fun h => UInt8.toNat_inj.1 (by omega), fun h => by rw [h]⟩
  simp [Op.eqFields, n0, n1, n2, n3, n4, t0, t1, t2, t3, t4, o0, o1, o2, o3, o4, go_sem, u]
  by_cases h0 : f = f' <;> by_cases h1 : c = c' <;> by_cases h2 : r = r' <;> by_cases h3 : e = e' <;> by_cases h4 : s = s' <;> simp [h0, h1, h2, h3, h4]
theorem slice5 (g k : Nat) (hk : k ≤ 5) (W : World) : (Instr.sliceAt 37 (.pointer (some ⟨g, 0, none⟩)) none (some (.int .i64 (k : Int))) none).run Try.prog W = .ok (.slice (some ⟨g, 0, none⟩) k 5) W := by
  have hal : Try.prog.arrayLen 37 = 5 := by kernel_rfl
  have hel : Try.prog.elem 37 = 5 := by kernel_rfl
  have h := run_sliceAt_array_h (P := Try.prog) W 37 ⟨g, 0, none⟩ (by rw [hal, hel]; exact Try.underlying37) .i64 (k : Int) (by omega) (by rw [hal]; omega)
  rw [h, hel, hal]
  have hs : (sizeOf 5).run Try.prog W = .ok 1 W := by have := Try.sizeOf5; simp [go_sem]
  rw [hs]
  simp [slicedAt, Addr.add]
theorem cells5 (f c r e s : UInt8) (W : World) (t : TypeId) (j : Nat) (hj : j < 5) : (W.alloc (.cells #[.int .u8 (f.toNat : Int), .int .u8 (c.toNat : Int), .int .u8 (r.toNat : Int), .int .u8 (e.toNat : Int), .int .u8 (s.toNat : Int)] t)).cell? ⟨W.heap.size, j, none⟩ = some (.int .u8 ((([f, c, r, e, s].getD j 0).toNat : Nat) : Int)) := by
  rw [(Blk.new W _ _).cell]
  refine small5 (p := fun j => #[Value.int .u8 (f.toNat : Int), .int .u8 (c.toNat : Int), .int .u8 (r.toNat : Int), .int .u8 (e.toNat : Int), .int .u8 (s.toNat : Int)][j]? = some (.int .u8 ((([f, c, r, e, s].getD j 0).toNat : Nat) : Int))) ?_ j hj
  exact ⟨rfl, rfl, rfl, rfl, rfl⟩
set_option maxRecDepth 100000 in
set_option maxHeartbeats 1000000 in
theorem valid_any (f c r e s : UInt8) (w : World) : Calls Try.prog 13 #[.agg #[.int .u8 (f.toNat : Int), .int .u8 (c.toNat : Int), .int .u8 (r.toNat : Int), .int .u8 (e.toNat : Int), .int .u8 (s.toNat : Int)]] w fun x w' => x = .returned (.bool (P.valid [f, c, r, e, s])) ∧ Below w.heap.size w w' := by
  have cell : ∀ x : Ext (w.alloc (.cells #[.int .u8 (f.toNat : Int), .int .u8 (c.toNat : Int), .int .u8 (r.toNat : Int), .int .u8 (e.toNat : Int), .int .u8 (s.toNat : Int)] 23)), ∀ i, x.wd.cell? ⟨w.heap.size, i, none⟩ = #[Value.int .u8 (f.toNat : Int), .int .u8 (c.toNat : Int), .int .u8 (r.toNat : Int), .int .u8 (e.toNat : Int), .int .u8 (s.toNat : Int)][i]? := fun x i => by
    rw [x.cell (by simp), (Blk.new w _ _).cell]
  have he := fun W => eql_delims f c r e s 124 94 126 92 38 W
  have hB : Below w.heap.size w (w.alloc (.cells #[.int .u8 (f.toNat : Int), .int .u8 (c.toNat : Int), .int .u8 (r.toNat : Int), .int .u8 (e.toNat : Int), .int .u8 (s.toNat : Int)] 23)) := (Below.refl _ _).alloc (Nat.le_refl _) _
  by_cases hD : [f, c, r, e, s] = P.dflt
  · have hv : P.valid [f, c, r, e, s] = true := by rw [hD]; exact P.valid_dflt
    rw [hv]
    have he2 : ∀ W, (binOp .eql 23 (.agg #[.int .u8 (f.toNat : Int), .int .u8 (c.toNat : Int), .int .u8 (r.toNat : Int), .int .u8 (e.toNat : Int), .int .u8 (s.toNat : Int)]) (.agg #[.int .u8 124, .int .u8 94, .int .u8 126, .int .u8 92, .int .u8 38])).run Try.prog W = .ok (.bool true) W := fun W => by
      have h := he W
      rw [decide_eq_true (p := [f, c, r, e, s] = [124, 94, 126, 92, 38]) hD] at h
      exact h
    clear he hD hv
    have HB := Lib.hid hB
    clear hB
    go_enter Try.func13, Try.ntmps13
    go_wp2_with fail
    refine wp_region_ext (by kernel_rfl) (by kernel_rfl) ?_
    repeat (first | go_big_quiet_step ((go_at_call 24; exact Ext.calls _ (default_any _))) | quiet_step ((go_at_call 24; exact Ext.calls _ (default_any _))))
    refine wpQuiet_nil ?_
    intro w2 hb2
    go_wp2
    go_ret
    exact ⟨rfl, HB.out.trans (hb2.mono HB.out.size)⟩
  · have he2 : ∀ W, (binOp .eql 23 (.agg #[.int .u8 (f.toNat : Int), .int .u8 (c.toNat : Int), .int .u8 (r.toNat : Int), .int .u8 (e.toNat : Int), .int .u8 (s.toNat : Int)]) (.agg #[.int .u8 124, .int .u8 94, .int .u8 126, .int .u8 92, .int .u8 38])).run Try.prog W = .ok (.bool false) W := fun W => by
      have h := he W
      rw [decide_eq_false (p := [f, c, r, e, s] = [124, 94, 126, 92, 38]) hD] at h
      exact h
    clear he hD
    have HB := Lib.hid hB
    clear hB
    go_enter Try.func13, Try.ntmps13
    go_wp2_with fail
    refine wp_region_ext (by kernel_rfl) (by kernel_rfl) ?_
    repeat (first | go_big_quiet_step ((go_at_call 24; exact Ext.calls _ (default_any _))) | quiet_step ((go_at_call 24; exact Ext.calls _ (default_any _))))
    refine wpQuiet_nil ?_
    intro w2 hb2
    have cell2 := fun i => cell ⟨w2, hb2⟩ i
    simp only at cell2
    have HB2 := Lib.hid (HB.out.trans (hb2.mono HB.out.size))
    clear hb2 cell he2
    go_wp2_with (go_at_call 25; refine (signs_any f c r e s _).mono ?_; rintro x w3 ⟨rfl, hb3⟩)
    have HB3 := Lib.hid (show Below w.heap.size w (w3.alloc (.cells #[.int .u8 (f.toNat : Int), .int .u8 (c.toNat : Int), .int .u8 (r.toNat : Int), .int .u8 (e.toNat : Int), .int .u8 (s.toNat : Int)] 37)) from (HB2.out.trans (hb3.mono HB2.out.size)).alloc (Nat.le_trans HB2.out.size hb3.size) _)
    have HC := Lib.hid (fun j hj => cells5 f c r e s w3 37 j hj)
    have HI := Lib.hid (fun W n hn => index5 f c r e s W n hn)
    clear cell2 hb3
    generalize w3.alloc (.cells #[.int .u8 (f.toNat : Int), .int .u8 (c.toNat : Int), .int .u8 (r.toNat : Int), .int .u8 (e.toNat : Int), .int .u8 (s.toNat : Int)] 37) = W at *
    go_loop [14] (fun i => ∃ k : Nat, k ≤ 5 ∧ i = .int .i64 k ∧ P.okUp [f, c, r, e, s] k) (fun i => 5 - (intOf i).toNat)
    case atStart => exact ⟨0, by omega, rfl, fun a ha => by omega⟩
    case round =>
      obtain ⟨k, hk, rfl, hok⟩ := hrel
      have Hok := Lib.hid hok
      clear hok
      by_cases hlt : k < 5
      · have hi := fun W => HI.out W k hlt
        have Bm := Lib.hid (fun h => P.bad_may (L := [f, c, r, e, s]) hlt h)
        have Bt := Lib.hid (fun b hb h => P.bad_twice (L := [f, c, r, e, s]) (b := b) hlt hb h)
        have Sc := Lib.hid (fun hm hd => P.okUp_succ (i := k) Hok.out hm hd)
        have HC2 := HC.out
        generalize hL : [f, c, r, e, s] = L at *
        have HC := Lib.hid HC2
        have HL := Lib.hid hL
        clear HC2 HI hL
        generalize hx : L.getD k 0 = x at *
        clear hx
        have Hmay := Lib.hid (fun W => may_any x W)
        by_cases hmay : P.may x = true
        · have hsl := slice5 w3.heap.size k hk
          have hmx := x.toNat_lt
          go_wp2_with (go_at_call 26; refine (Hmay.out _).mono ?_; rintro y w' ⟨rfl, rfl⟩)
          go_loop [24] (fun i => ∃ j : Nat, j ≤ k ∧ i = .int .i64 j ∧ ∀ b, b < j → L.getD b 0 ≠ x) (fun i => k - (intOf i).toNat)
          case atStart => exact ⟨0, by omega, rfl, fun b hb => by omega⟩
          case round =>
            obtain ⟨j, hj, rfl, hne⟩ := hrel
            have Hne := Lib.hid hne
            clear hne
            by_cases hjk : j < k
            · have hcj := HC.out j (by omega)
              have hy := (L.getD j 0).toNat_lt
              have Bj := Lib.hid (fun h => Bt.out j hjk h)
              have Nj := Lib.hid (show L.getD j 0 ≠ x → ∀ b, b < j + 1 → L.getD b 0 ≠ x from fun h b hb => by
                rcases Nat.lt_or_ge b j with h1 | h1
                · exact Hne.out b h1
                · have : b = j := by omega
                  subst this; exact h)
              generalize L.getD j 0 = y at *
              by_cases hxy : y = x
              · have HV := Lib.hid (Bj.out hxy)
                subst hxy
                have ht : ((y.toNat : Int) == (y.toNat : Int)) = true := by simp
                go_wp2
                go_ret
                rw [HL.out, HV.out]
                exact ⟨rfl, HB3.out⟩
              · have ht : ((y.toNat : Int) == (x.toNat : Int)) = false := beq_eq_false_iff_ne.2 (fun h => hxy (UInt8.toNat_inj.1 (by omega)))
                have Nj2 := Lib.hid (Nj.out hxy)
                clear hxy
                go_wp2
                go_round
                case rel => exact ⟨j + 1, by omega, by go_num, Nj2.out⟩
                case measure => simp [intOf]; omega
            · have hjk2 : j = k := by omega
              have Hok2 := Lib.hid (Sc.out hmay (hjk2 ▸ Hne.out))
              clear hjk2
              go_wp2
              go_round
              case rel => exact ⟨k + 1, by omega, by go_num, Hok2.out⟩
              case measure => simp [intOf]; omega
        · have hmay2 : P.may x = false := by simpa using hmay
          have HV := Lib.hid (Bm.out hmay2)
          clear hmay
          go_wp2_with (go_at_call 26; refine (Hmay.out _).mono ?_; rintro y w' ⟨rfl, rfl⟩)
          go_ret
          rw [HL.out, HV.out]
          exact ⟨rfl, HB3.out⟩
      · have hk5 : k = 5 := by omega
        have HV := Lib.hid (show P.valid [f, c, r, e, s] = true from decide_eq_true (hk5 ▸ Hok.out))
        clear hk5
        go_wp2
        go_ret
        rw [HV.out]
        exact ⟨rfl, HB3.out⟩
end Go.Proofs.Ytefebcibcmjbaab
