/- Part P4 of the proof: the statement that is proved stands in the text that ends with its name. No conditions beyond the card's. -/
import Derived.Test.YtmabpnmnppfgaaaGreatDoorP1
import Derived.Deep.RegionLaw
import Derived.Lib.AppendStr
import Derived.ScopeJumps
import Derived.WalkMore
namespace Go.Proofs.YtmabpnmnppfgaaaGreatDoor
set_option linter.unusedVariables false
open Go.RowKit Go.BigFrame
theorem take_snoc (s : ByteArray) (k : Nat) (h : k < s.size) : s.data.toList.take (k + 1) = s.data.toList.take k ++ [s[k]] := by
  rw [List.take_succ_eq_append_getElem (by simpa using h)]; rfl
theorem small {p : Nat → Prop} (h : p 0 ∧ p 1 ∧ p 2 ∧ p 3 ∧ p 4 ∧ p 5 ∧ p 6 ∧ p 7 ∧ p 8 ∧ p 9 ∧ p 10 ∧ p 11 ∧ p 12 ∧ p 13 ∧ p 14 ∧ p 15) (n : Nat) (hn : n < 16) : p n := by
  obtain ⟨h0, h1, h2, h3, h4, h5, h6, h7, h8, h9, h10, h11, h12, h13, h14, h15⟩ := h
  rcases (by omega : n = 0 ∨ n = 1 ∨ n = 2 ∨ n = 3 ∨ n = 4 ∨ n = 5 ∨ n = 6 ∨ n = 7 ∨ n = 8 ∨ n = 9 ∨ n = 10 ∨ n = 11 ∨ n = 12 ∨ n = 13 ∨ n = 14 ∨ n = 15) with rfl | rfl | rfl | rfl | rfl | rfl | rfl | rfl | rfl | rfl | rfl | rfl | rfl | rfl | rfl | rfl <;> assumption
theorem index_hex (W : World) (n : Nat) (hn : n < 16) : (Instr.index 9 (.string ⟨#[48, 49, 50, 51, 52, 53, 54, 55, 56, 57, 97, 98, 99, 100, 101, 102]⟩) (.int .u8 (n : Int))).run Tryz.prog W = .ok (.int .u8 ((P.hd n).toNat : Int)) W := by
  refine small (p := fun n => (Instr.index 9 (.string ⟨#[48, 49, 50, 51, 52, 53, 54, 55, 56, 57, 97, 98, 99, 100, 101, 102]⟩) (.int .u8 (n : Int))).run Tryz.prog W = .ok (.int .u8 ((P.hd n).toNat : Int)) W) ?_ n hn
  exact ⟨by kernel_rfl, by kernel_rfl, by kernel_rfl, by kernel_rfl, by kernel_rfl, by kernel_rfl, by kernel_rfl, by kernel_rfl, by kernel_rfl, by kernel_rfl, by kernel_rfl, by kernel_rfl, by kernel_rfl, by kernel_rfl, by kernel_rfl, by kernel_rfl⟩
theorem and15 (b : Nat) (hb : b < 256) : bits BinOp.and IntKind.u8 (b : Int) 15 = ((b % 16 : Nat) : Int) := by
  rw [show (15 : Int) = ((15 : Nat) : Int) from rfl, u8_and_nat _ _ hb (by omega)]
  congr 1
  exact Nat.and_two_pow_sub_one_eq_mod b 4
set_option maxRecDepth 100000 in
set_option maxHeartbeats 400000 in
theorem hex_any (s : ByteArray) (w : World) (hs : s.size ≤ 140737488351232) :
    Calls Tryz.prog 134 #[.string s] w fun e w' => e = .returned (.string ⟨(P.hex s.data.toList).toArray⟩) ∧ Below w.heap.size w w' := by
  have hmk : ∀ W : World, (Instr.makeSlice 163 (.int .i64 0) (.int .i64 (2 * (s.size : Int)))).run Tryz.prog W = .ok (.slice (some ⟨W.heap.size, 0, none⟩) 0 (2 * s.size)) (W.alloc (.cells (cellsU8 (List.replicate (2 * s.size) 0)) 5)) := fun W => by
    have := make_bytes .i64 .i64 0 (2 * s.size) (by omega) (by omega) W
    rw [show (((2 * s.size : Nat)) : Int) = 2 * (s.size : Int) from by omega] at this
    exact this
  have Hown := Lib.hid (OwnB.made w (2 * s.size) (by unfold maxLen; omega))
  go_enter Tryz.func134, Tryz.ntmps134
  go_wp2_with fail
  go_loopw [3, 11] (fun v x wr => ∃ k : Nat, k ≤ s.size ∧ x = .int .i64 k ∧ v = .slice (some ⟨w.heap.size, 0, none⟩) (P.hex (s.data.toList.take k)).length (2 * s.size) ∧ OwnB wr w.heap.size v (P.hex (s.data.toList.take k)) ∧ Below w.heap.size w wr) (fun _ x _ => s.size - (intOf x).toNat)
  case atStart => exact ⟨0, by omega, rfl, rfl, Hown.out, (Below.refl _ _).alloc (Nat.le_refl _) _⟩
  case round =>
    obtain ⟨k, hk, rfl, rfl, hown, hbel⟩ := hrel
    by_cases hlt : k < s.size
    · have hb : s[k].toNat < 256 := s[k].toNat_lt
      have ha := and15 s[k].toNat hb
      have hi1 : ∀ W : World, _ := fun W => index_hex W (s[k].toNat / 16) (by omega)
      rw [show ((s[k].toNat / 16 : Nat) : Int) = (s[k].toNat : Int) / 16 from by omega] at hi1
      have hi2 : ∀ W : World, _ := fun W => index_hex W (s[k].toNat % 16) (by omega)
      rw [show ((s[k].toNat % 16 : Nat) : Int) = (s[k].toNat : Int) % 16 from by omega] at hi2
      rw [show ((s[k].toNat % 16 : Nat) : Int) = (s[k].toNat : Int) % 16 from by omega] at ha
      have hsn := take_snoc s k hlt
      have HS := Lib.hid (show P.hex (s.data.toList.take (k + 1)) = P.hex (s.data.toList.take k) ++ P.hexB s[k] from by rw [hsn, P.hex_snoc])
      clear hsn
      have hl := P.hex_length (s.data.toList.take k)
      rw [List.length_take, Nat.min_eq_left (by simpa using hk)] at hl
      have HL := Lib.hid hl
      clear hl
      generalize P.hex (s.data.toList.take k) = l at *
      go_wp2_with fail
      go_region_law (refine step_append_bytes_fits rfl (.tmp 14) (.tmp 25) rfl w.heap.size w.heap.size (2 * s.size) l (by simp [Act.eval]) (hown.drew.alloc _) ⟨wr.heap.size, 0, none⟩ 2 2 (P.hexB s[k]) (by simp [Act.eval]) rfl (newsU8 wr 5 (P.hexB s[k])) (by have := HL.out; omega) (by have := hbel.size; simp; omega) ?_; intro w2 hown2 hbel2)
      all_goals
        have Hb2 := Lib.hid (show Below w.heap.size w w2 from (hbel.drew.alloc (by have := hbel.size; simpa using this) _).trans hbel2)
        clear hbel2
        go_wp2
        go_roundw
        case rel => exact ⟨k + 1, by omega, by go_num, by rw [HS.out]; simp, by rw [HS.out]; simpa using hown2, Hb2.out⟩
        case measure => simp [intOf]; omega
    · have hkn : k = s.size := by omega
      subst hkn
      have HT := Lib.hid (show P.hex (s.data.toList.take s.size) = P.hex s.data.toList from by rw [List.take_of_length_le (by simp)])
      generalize P.hex (s.data.toList.take s.size) = l at *
      have hst := hown.string
      clear hown
      go_wp2
      go_ret
      rw [← HT.out]
      exact ⟨rfl, hbel⟩
end Go.Proofs.YtmabpnmnppfgaaaGreatDoor
namespace Go.Proofs.YtmabpnmnppfgaaaGreatDoor
set_option linter.unusedVariables false
open Go.RowKit
end Go.Proofs.YtmabpnmnppfgaaaGreatDoor
namespace Go.Proofs.YtmabpnmnppfgaaaGreatDoor
set_option linter.unusedVariables false
open Go.RowKit
theorem head_at (s : ByteArray) (h : 0 < s.size) : s.data.toList.head? = some s[0] := by
  have : 0 < s.data.toList.length := by simpa using h
  rw [List.head?_eq_getElem?, List.getElem?_eq_getElem this]
  rfl
theorem pow_le10 {k : Nat} (h : k ≤ 9) : 10 ^ k ≤ 1000000000 := by
  have := Nat.pow_le_pow_right (n := 10) (by omega) h
  simpa using this
theorem not_all (s : ByteArray) (k : Nat) (h : k < s.size) (hd : P.digit s[k] = false) : P.numOk s.data.toList = false := by
  have hm : s[k] ∈ s.data.toList := by
    have : s[k] = s.data.toList[k]'(by simpa using h) := rfl
    rw [this]; exact List.getElem_mem _
  have : s.data.toList.all P.digit = false := by
    rw [Bool.eq_false_iff]
    intro h2
    have := List.all_eq_true.1 h2 _ hm
    rw [hd] at this; cases this
  simp [P.numOk, this]
set_option maxRecDepth 100000 in
set_option maxHeartbeats 1000000 in
theorem number_any (s : ByteArray) (w : World) (hs : s.size ≤ maxLen) :
    Calls Tryz.prog 214 #[.string s] w fun e w' => e = .returned (.tuple #[.int .i64 (P.numV s.data.toList), .int .i64 (P.numE s.data.toList)]) ∧ w = w' := by
  unfold maxLen at hs
  have bad : ∀ hb : P.numOk s.data.toList = false, P.numV s.data.toList = 0 ∧ P.numE s.data.toList = 11 := fun hb => ⟨by simp [P.numV, hb], by simp [P.numE, hb]⟩
  by_cases h0 : s.size = 0
  · obtain ⟨HV, HE⟩ := bad (by simp [P.numOk, h0])
    rw [HV, HE]
    have he : s.toList = [] := by rw [ByteArray.toList_eq]; exact List.eq_nil_of_length_eq_zero (by simpa using h0)
    have he2 : s.toList.isEmpty = true := by rw [he]; rfl
    have he := Lib.hid he
    clear HV HE bad
    go_enter Tryz.func214, Tryz.ntmps214
    go_wp2
    go_ret2
    exact ⟨rfl, rfl⟩
  · have he2 : s.toList.isEmpty = false := by
      rw [ByteArray.toList_eq, Bool.eq_false_iff, ne_eq, List.isEmpty_iff]
      intro h; apply h0; have := congrArg List.length h; simpa using this
    by_cases h1 : 10 < s.size
    · obtain ⟨HV, HE⟩ := bad (by simp [P.numOk]; intro _ h _; omega)
      rw [HV, HE]
      clear HV HE bad
      go_enter Tryz.func214, Tryz.ntmps214
      go_wp2
      go_ret2
      exact ⟨rfl, rfl⟩
    · have hb0 : s[0].toNat < 256 := s[0].toNat_lt
      by_cases h2 : 1 < s.size ∧ s[0].toNat = 48
      · obtain ⟨h2, h3⟩ := h2
        have hz : s[0] = 48 := UInt8.toNat_inj.1 h3
        obtain ⟨HV, HE⟩ := bad (by simp [P.numOk, head_at s (by omega), hz]; intro _ _ h; omega)
        rw [HV, HE]
        have ht : ((s[0].toNat : Int) == 48) = true := by rw [beq_iff_eq]; omega
        clear HV HE bad hz h3
        go_enter Tryz.func214, Tryz.ntmps214
        go_wp2
        go_ret2
        exact ⟨rfl, rfl⟩
      · have fin : Calls Tryz.prog 214 #[.string s] w fun e w' => e = .returned (.tuple #[.int .i64 (P.numV s.data.toList), .int .i64 (P.numE s.data.toList)]) ∧ w = w' := by
          have Hok := Lib.hid (show P.numOk s.data.toList = (s.data.toList.all P.digit && decide (P.numN s.data.toList ≤ 2147483647)) from by
            unfold P.numOk
            rw [decide_eq_true (p := 1 ≤ s.data.toList.length ∧ s.data.toList.length ≤ 10 ∧ ¬ (1 < s.data.toList.length ∧ s.data.toList.head? = some 48)), Bool.true_and]
            refine ⟨by simp; omega, by simp; omega, ?_⟩
            rintro ⟨ha, hb⟩
            rw [head_at s (by omega)] at hb
            exact h2 ⟨by simpa using ha, by rw [Option.some.inj hb]; rfl⟩)
          have Bad := Lib.hid bad
          clear bad
          have main : ∀ _ : (s.size ≤ 1 ∨ (1 < s.size ∧ ((s[0].toNat : Int) == 48) = false)), Calls Tryz.prog 214 #[.string s] w fun e w' => e = .returned (.tuple #[.int .i64 (P.numV s.data.toList), .int .i64 (P.numE s.data.toList)]) ∧ w = w' := by
            intro hcase
            have H2 := Lib.hid h2
            rcases hcase with h5 | ⟨h5, h6⟩
            all_goals
              go_enter Tryz.func214, Tryz.ntmps214
              go_wp2
              go_loop [4, 25] (fun x i => ∃ k : Nat, k ≤ s.size ∧ i = .int .i64 k ∧ ∃ m : Nat, m = P.numN (s.data.toList.take k) ∧ x = .int .i64 m ∧ ∀ b ∈ s.data.toList.take k, P.digit b = true) (fun _ i => s.size - (intOf i).toNat)
              case atStart => exact ⟨0, by omega, rfl, 0, by simp [P.numN], rfl, by simp⟩
              case round =>
                obtain ⟨k, hk, rfl, m, hm, rfl, hall⟩ := hrel
                have hlt0 := P.numN_lt (s.data.toList.take k) hall
                rw [← hm, List.length_take, Nat.min_eq_left (by simpa using hk)] at hlt0
                have Hm := Lib.hid hm
                have Hall := Lib.hid hall
                clear hm hall
                by_cases hlt : k < s.size
                · have hp := pow_le10 (k := k) (by omega)
                  have hm2 : m < 1000000000 := by omega
                  have hb : s[k].toNat < 256 := s[k].toNat_lt
                  have hsn := take_snoc s k hlt
                  have Hn := Lib.hid (show P.numN (s.data.toList.take (k + 1)) = 10 * m + (s[k].toNat - 48) from by rw [hsn, P.numN_snoc, ← Hm.out])
                  have Hsn := Lib.hid hsn
                  clear hsn hp hlt0
                  by_cases hd : 48 ≤ s[k].toNat ∧ s[k].toNat ≤ 57
                  · have Hd := Lib.hid (show P.digit s[k] = true from decide_eq_true hd)
                    obtain ⟨hd1, hd2⟩ := hd
                    go_wp2
                    go_round
                    case rel => exact ⟨k + 1, by omega, by go_num, _, Hn.out.symm, by go_num, by
                      rw [Hsn.out]
                      intro b hb
                      rcases List.mem_append.1 hb with h | h
                      · exact Hall.out b h
                      · rw [List.mem_singleton.1 h]; exact Hd.out⟩
                    case measure => simp [intOf]; omega
                  · obtain ⟨hv, he9⟩ := Bad.out (not_all s k hlt (decide_eq_false hd))
                    have HV := Lib.hid hv
                    have HE := Lib.hid he9
                    clear hv he9
                    rcases (by omega : s[k].toNat < 48 ∨ (48 ≤ s[k].toNat ∧ 57 < s[k].toNat)) with hd1 | ⟨hd1, hd2⟩
                    · clear hd
                      go_wp2
                      go_ret2
                      rw [HV.out, HE.out]
                      exact ⟨rfl, rfl⟩
                    · clear hd
                      go_wp2
                      go_ret2
                      rw [HV.out, HE.out]
                      exact ⟨rfl, rfl⟩
                · clear hlt0
                  have ht : s.data.toList.take k = s.data.toList := List.take_of_length_le (by simp; omega)
                  have Hall2 := Hall.out
                  have Hm2 := Hm.out
                  rw [ht] at Hall2 Hm2
                  have ha : s.data.toList.all P.digit = true := List.all_eq_true.2 Hall2
                  by_cases hbig : m ≤ 2147483647
                  · have hok : P.numOk s.data.toList = true := by rw [Hok.out, ha, ← Hm2]; simpa using hbig
                    have HV := Lib.hid (show P.numV s.data.toList = m from by simp [P.numV, hok, ← Hm2])
                    have HE := Lib.hid (show P.numE s.data.toList = 0 from by simp [P.numE, hok])
                    clear ht ha hok Hall2 Hm2
                    go_wp2
                    go_ret2
                    rw [HV.out, HE.out]
                    exact ⟨rfl, rfl⟩
                  · have hok : P.numOk s.data.toList = false := by rw [Hok.out, ha, ← Hm2]; simpa using hbig
                    obtain ⟨hv, he9⟩ := Bad.out hok
                    have HV := Lib.hid hv
                    have HE := Lib.hid he9
                    clear hv he9
                    clear ht ha hok Hall2 Hm2
                    go_wp2
                    go_ret2
                    rw [HV.out, HE.out]
                    exact ⟨rfl, rfl⟩
          exact main (by
            rcases Nat.lt_or_ge 1 s.size with h | h
            · exact .inr ⟨h, beq_eq_false_iff_ne.2 (by intro e; exact h2 ⟨h, by omega⟩)⟩
            · exact .inl h)
        exact fin
end Go.Proofs.YtmabpnmnppfgaaaGreatDoor
namespace Go.Proofs.YtmabpnmnppfgaaaGreatDoor
set_option linter.unusedVariables false
open Go Go.RowKit
theorem strCells_valU8 (s : ByteArray) : Lib.strCells s = s.data.toList.map valU8 := rfl
theorem wpList_append_str {w : World} {ops : Array Oper} {rest : List Oper} {o : Oper} {a : Act} {Q : Exit → Act → World → Prop} (hgd : o.guard = none) (s x : Operand)
    (ho : o.op = .call { callee := .builtin .append, args := #[s, x], argTypes := #[163, 9] })
    (B : Nat) (v : Value) (l : List UInt8) (hs : a.eval s = v) (hown : OwnB w B v l)
    (t : ByteArray) (hx : a.eval x = .string t)
    (hbytes : l.length + t.size ≤ 140737488355328) (hbase : B ≤ w.heap.size)
    (h : ∀ v' w', OwnB w' B v' (l ++ t.data.toList) → Below B w w' → wpList Tryz.prog ops Q rest (a.put o.dst v') w') : wpList Tryz.prog ops Q (o :: rest) a w := by
  obtain ⟨i, hi, hz, hs1, hb1⟩ := info_parts infoU8
  refine Lib.wpList_append_own_string w hgd s x 163 9 ho B 5 i Tryz.underlying163 Tryz.underlying9 hi hz hs1 hb1 v l.length (l.map valU8) hs hown t hx (by unfold maxLen; omega) hbytes hbase ?_
  intro v' w' hown' hg _
  refine h v' w' ?_ ((Below.refl _ _).grown hg hbase (fun k hk => (World.ownsRow.lt hown k hk).1))
  unfold OwnB
  rw [List.length_append, List.map_append, ← strCells_valU8]
  exact (show t.data.toList.length = t.size by simp) ▸ hown'
def jumpsTo (J : Nat → Act → World → Prop) (Q : Exit → Act → World → Prop) : Exit → Act → World → Prop
  | .goto l, a, w => J l a w
  | e, a, w => Q e a w
section
variable {J : Nat → Act → World → Prop} {Q : Exit → Act → World → Prop} {a : Act} {w : World}
theorem jumpsTo_ret : jumpsTo J Q .ret a w = Q .ret a w := rfl
theorem wp_scope_labels {P : Program} {c : Code} (rest : Nat → Code) (J : Nat → Act → World → Prop) (μ : Nat → Act → World → Nat) (hf : ∀ l a w, J l a w → findLabel c l = some (rest l))
    (first : c.wp P (jumpsTo J Q) a w) (pass : ∀ l a w, J l a w → (rest l).wp P (jumpsTo (fun l' a' w' => J l' a' w' ∧ μ l' a' w' < μ l a w) Q) a w) : (Code.scope c).wp P Q a w := by
  intro b k cs
  have again : ∀ n l a w, μ l a w = n → J l a w → ∃ e a' w', Q e a' w' ∧ Arrives P (lone (b.at a (.code (rest l) :: .inScope c :: k)) cs w) b k cs e a' w' := fun n => by
    induction n using Nat.strongRecOn with
    | _ n ih =>
      intro l a w hn hJ
      obtain ⟨e, a1, w1, hq, harr⟩ := pass l a w hJ b (.inScope c :: k) cs
      match e, hq, harr with
      | .goto l2, hq, harr =>
        obtain ⟨hJ2, hlt⟩ := hq
        obtain ⟨e2, a2, w2, hq2, harr2⟩ := ih _ (hn ▸ hlt) l2 a1 w1 rfl hJ2
        exact ⟨e2, a2, w2, hq2, .of_steps (harr _ (by simp [gotoIn, hf l2 a1 w1 hJ2])) harr2⟩
      | .normal, hq, harr => exact ⟨_, a1, w1, hq, Steps.trans harr (.one step_inScope)⟩
      | .exit id, hq, harr => exact ⟨.exit id, a1, w1, hq, fun k' hk => harr k' (by simpa [exitTo] using hk)⟩
      | .ret, hq, harr => exact ⟨_, a1, w1, hq, harr⟩
      | .panic ch, hq, harr => exact ⟨_, a1, w1, hq, harr⟩
      | .outgrown, hq, harr => exact ⟨_, a1, w1, hq, harr⟩
  obtain ⟨e, a1, w1, hq, harr⟩ := first b (.inScope c :: k) cs
  match e, hq, harr with
  | .goto l2, hq, harr =>
    obtain ⟨e2, a2, w2, hq2, harr2⟩ := again _ l2 a1 w1 rfl hq
    exact ⟨e2, a2, w2, hq2, .of_steps (.head step_scope (harr _ (by simp [gotoIn, hf l2 a1 w1 hq]))) harr2⟩
  | .normal, hq, harr => exact ⟨.normal, a1, w1, hq, .head step_scope (Steps.trans harr (.one step_inScope))⟩
  | .exit id, hq, harr => exact ⟨.exit id, a1, w1, hq, fun k' hk => .head step_scope (harr k' (by simpa [exitTo] using hk))⟩
  | .ret, hq, harr => exact ⟨_, a1, w1, hq, .of_steps (.one step_scope) harr⟩
  | .panic ch, hq, harr => exact ⟨_, a1, w1, hq, .of_steps (.one step_scope) harr⟩
  | .outgrown, hq, harr => exact ⟨_, a1, w1, hq, .of_steps (.one step_scope) harr⟩
theorem wp_scope_two {P : Program} {c r0 r1 : Code} (J : Nat → Act → World → Prop) (μ : Nat → Act → World → Nat) (h0 : findLabel c 0 = some (.seq .skip r0)) (h1 : findLabel c 1 = some (.seq .skip r1)) (hJ : ∀ l a w, J l a w → l = 0 ∨ l = 1)
    (pass0 : ∀ a w, J 0 a w → r0.wp P (jumpsTo (fun l' a' w' => J l' a' w' ∧ μ l' a' w' < μ 0 a w) Q) a w)
    (pass1 : ∀ a w, J 1 a w → r1.wp P (jumpsTo (fun l' a' w' => J l' a' w' ∧ μ l' a' w' < μ 1 a w) Q) a w)
    (first : (∀ a w, J 0 a w → r0.wp P (jumpsTo J Q) a w) → c.wp P (jumpsTo J Q) a w) : (Code.scope c).wp P Q a w := by
  refine wp_scope_labels (fun l => if l = 0 then .seq .skip r0 else .seq .skip r1) J μ (fun l a w h => ?_) (first fun a w h => wp_mono (pass0 a w h) fun e a w hq => ?_) fun l a w h => ?_
  · rcases hJ l a w h with rfl | rfl
    · exact h0
    · exact h1
  · cases e with
    | goto l => exact hq.1
    | _ => exact hq
  · rcases hJ l a w h with rfl | rfl
    · exact wp_seq (wp_skip (pass0 a w h))
    · exact wp_seq (wp_skip (pass1 a w h))
end
end Go.Proofs.YtmabpnmnppfgaaaGreatDoor
