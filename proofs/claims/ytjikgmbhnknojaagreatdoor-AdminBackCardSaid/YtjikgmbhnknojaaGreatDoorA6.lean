/- Parts, joined. -/
import Derived.Test.YtjikgmbhnknojaaGreatDoorA5
import Derived.Test.YtjikgmbhnknojaaGreatDoorP3
/- Where a scan stands: what is read already. How a word lies in memory. Plain; no conditions. -/
namespace Go.Proofs.YtjikgmbhnknojaaGreatDoor
set_option linter.unusedVariables false
open Go Go.RowKit
theorem results_tmp4 {fn : Func} {t u v x : Tmp} (h : fn.results = #[.tmp t, .tmp u, .tmp v, .tmp x]) (tmps : Array Value) (P : Program) (w : World) :
    (results fn tmps).run P w = .ok (.tuple #[tmps.getD t undef, tmps.getD u undef, tmps.getD v undef, tmps.getD x undef]) w := by
  simp [results, h]
theorem arr_of {T : Array Value} (n : Nat) (h : T.size = n) : T = ((List.range n).map fun i => T.getD i undef).toArray := by
  apply Array.ext_getElem?
  intro i
  simp
  rcases Nat.lt_or_ge i n with hi | hi
  · rw [List.getElem?_range hi]
    simp [h, hi]
  · rw [Array.getElem?_eq_none (by omega), List.getElem?_eq_none (by simpa using hi)]
    rfl
set_option maxRecDepth 100000 in
theorem frame89 {T : Array Value} (h : T.size = 89) : T = #[T.getD 0 undef, T.getD 1 undef, T.getD 2 undef, T.getD 3 undef, T.getD 4 undef, T.getD 5 undef, T.getD 6 undef, T.getD 7 undef, T.getD 8 undef, T.getD 9 undef, T.getD 10 undef, T.getD 11 undef, T.getD 12 undef, T.getD 13 undef, T.getD 14 undef, T.getD 15 undef, T.getD 16 undef, T.getD 17 undef, T.getD 18 undef, T.getD 19 undef, T.getD 20 undef, T.getD 21 undef, T.getD 22 undef, T.getD 23 undef, T.getD 24 undef, T.getD 25 undef, T.getD 26 undef, T.getD 27 undef, T.getD 28 undef, T.getD 29 undef, T.getD 30 undef, T.getD 31 undef, T.getD 32 undef, T.getD 33 undef, T.getD 34 undef, T.getD 35 undef, T.getD 36 undef, T.getD 37 undef, T.getD 38 undef, T.getD 39 undef, T.getD 40 undef, T.getD 41 undef, T.getD 42 undef, T.getD 43 undef, T.getD 44 undef, T.getD 45 undef, T.getD 46 undef, T.getD 47 undef, T.getD 48 undef, T.getD 49 undef, T.getD 50 undef, T.getD 51 undef, T.getD 52 undef, T.getD 53 undef, T.getD 54 undef, T.getD 55 undef, T.getD 56 undef, T.getD 57 undef, T.getD 58 undef, T.getD 59 undef, T.getD 60 undef, T.getD 61 undef, T.getD 62 undef, T.getD 63 undef, T.getD 64 undef, T.getD 65 undef, T.getD 66 undef, T.getD 67 undef, T.getD 68 undef, T.getD 69 undef, T.getD 70 undef, T.getD 71 undef, T.getD 72 undef, T.getD 73 undef, T.getD 74 undef, T.getD 75 undef, T.getD 76 undef, T.getD 77 undef, T.getD 78 undef, T.getD 79 undef, T.getD 80 undef, T.getD 81 undef, T.getD 82 undef, T.getD 83 undef, T.getD 84 undef, T.getD 85 undef, T.getD 86 undef, T.getD 87 undef, T.getD 88 undef] := arr_of 89 h
/-- What a scan's frame holds. -/
def ScanF (s : ByteArray) (k : Nat) (ln bg : Int) (v : Value) (a : Act) : Prop :=
  a.defers = [] ∧ a.tmps.size = 89 ∧ a.tmps.getD 0 undef = .string s ∧ a.tmps.getD 2 undef = .slice none 0 0 ∧ a.tmps.getD 3 undef = .int .i64 0 ∧ a.tmps.getD 4 undef = .int .i64 0 ∧ a.tmps.getD 5 undef = .int .i64 0 ∧ a.tmps.getD 6 undef = v ∧ a.tmps.getD 7 undef = .int .i64 (k : Int) ∧ a.tmps.getD 8 undef = .int .i64 ln ∧ a.tmps.getD 9 undef = .int .i64 bg
theorem ScanF.lit {s : ByteArray} {k : Nat} {ln bg : Int} {v : Value} {a : Act} (h : ScanF s k ln bg v a) : ∃ u : Nat → Value, a = { tmps := #[.string s, u 1, .slice none 0 0, .int .i64 0, .int .i64 0, .int .i64 0, v, .int .i64 (k : Int), .int .i64 ln, .int .i64 bg, u 10, u 11, u 12, u 13, u 14, u 15, u 16, u 17, u 18, u 19, u 20, u 21, u 22, u 23, u 24, u 25, u 26, u 27, u 28, u 29, u 30, u 31, u 32, u 33, u 34, u 35, u 36, u 37, u 38, u 39, u 40, u 41, u 42, u 43, u 44, u 45, u 46, u 47, u 48, u 49, u 50, u 51, u 52, u 53, u 54, u 55, u 56, u 57, u 58, u 59, u 60, u 61, u 62, u 63, u 64, u 65, u 66, u 67, u 68, u 69, u 70, u 71, u 72, u 73, u 74, u 75, u 76, u 77, u 78, u 79, u 80, u 81, u 82, u 83, u 84, u 85, u 86, u 87, u 88], defers := [] } := by
  obtain ⟨hd, hs, h0, h2, h3, h4, h5, h6, h7, h8, h9⟩ := h
  obtain ⟨T, D⟩ := a
  simp only at hd hs h0 h2 h3 h4 h5 h6 h7 h8 h9
  refine ⟨fun i => T.getD i undef, ?_⟩
  subst hd
  have e := frame89 hs
  rw [h0, h2, h3, h4, h5, h6, h7, h8, h9] at e
  exact congrArg (fun T => ({ tmps := T, defers := [] } : Act)) e
namespace Ad
/-- What stands from the k-th byte on is to be read; these words are read already. -/
def ScanAt (L : Bs) (k : Nat) (toks : List Tok) : Prop := ∀ x, ScanR (L.drop k) x → ScanR L (x.map (toks ++ ·))
theorem ScanAt.start (L : Bs) : ScanAt L 0 [] := fun x h => by
  have : x.map (([] : List Tok) ++ ·) = x := by cases x <;> simp
  rw [this]
  exact h
section
variable {L : Bs} {k : Nat} {toks : List Tok}
theorem ScanAt.skip (h : ScanAt L k toks) {c : UInt8} (hd : L.drop k = c :: L.drop (k + 1)) (hb : blank c) : ScanAt L (k + 1) toks := fun x hx => by
  refine h x ?_
  rw [hd]
  exact .skip c _ x hb hx
theorem ScanAt.remark (h : ScanAt L k toks) {c : UInt8} (hd : L.drop k = c :: L.drop (k + 1)) (hb : c.toNat = 35) (j : Nat) : ScanAt L (k + 1 + j) toks := fun x hx => by
  refine h x ?_
  rw [hd]
  refine .remark c _ j x hb ?_
  rw [List.drop_drop]
  exact hx
theorem ScanAt.word (h : ScanAt L k toks) {c : UInt8} (hd : L.drop k = c :: L.drop (k + 1)) (hb : ¬ blank c) (hr : c.toNat ≠ 35) {t : Tok} {n : Nat} (hw : WordR (L.drop k) (some (t, n))) : ScanAt L (k + n) (toks ++ [t]) := fun x hx => by
  have h2 := h (x.map (t :: ·)) (by
    rw [hd] at hw ⊢
    refine .word c _ t n x hb hr hw ?_
    rw [← hd, List.drop_drop]
    exact hx)
  have e : (x.map (t :: ·)).map (toks ++ ·) = x.map (toks ++ [t] ++ ·) := by cases x <;> simp
  rw [← e]
  exact h2
theorem ScanAt.bad (h : ScanAt L k toks) {c : UInt8} (hd : L.drop k = c :: L.drop (k + 1)) (hb : ¬ blank c) (hr : c.toNat ≠ 35) (hw : WordR (L.drop k) none) : ScanR L none := by
  refine h none ?_
  rw [hd] at hw ⊢
  exact .bad c _ hb hr hw
theorem ScanAt.done (h : ScanAt L k toks) (hk : L.length ≤ k) : ScanR L (some toks) := by
  have := h (some []) (by rw [List.drop_eq_nil_of_le hk]; exact .nil)
  simpa using this
end
theorem run_pos {p : UInt8 → Bool} {c : UInt8} {r : Bs} (h : p c = true) : 1 ≤ run p (c :: r) := by
  unfold run
  simp [List.takeWhile, h]
theorem wordF_len {s : Bs} {t : Tok} {n : Nat} (h : wordF s = some (t, n)) : 1 ≤ n ∧ n ≤ s.length := by
  unfold wordF at h
  split at h
  · cases h
  · rename_i c r
    split at h
    · rename_i h1
      split at h
      · cases h
      · simp only [Option.some.injEq, Prod.mk.injEq] at h
        obtain ⟨-, rfl⟩ := h
        exact ⟨run_pos (by unfold nameC; simp [h1]), run_le _ _⟩
    · split at h
      · rename_i h2
        split at h
        · simp only [Option.some.injEq, Prod.mk.injEq] at h
          obtain ⟨-, rfl⟩ := h
          exact ⟨run_pos h2, run_le _ _⟩
        · cases h
      · cases ht : text r with
        | none => rw [ht] at h; simp at h
        | some y =>
          obtain ⟨v, m⟩ := y
          have hl := text_len _ r v m (Nat.le_refl _) ht
          rw [ht] at h
          simp only at h
          split at h
          · cases h
          · simp only [Option.some.injEq, Prod.mk.injEq] at h
            obtain ⟨-, rfl⟩ := h
            simp
            omega
theorem wordR_len {s : Bs} {t : Tok} {n : Nat} (h : WordR s (some (t, n))) : 1 ≤ n ∧ n ≤ s.length := by
  unfold WordR at h
  split at h
  · exact h.elim
  · split at h
    · exact wordF_len h.symm
    · rcases h with h | ⟨t', n', h1, h2, -, h3⟩
      · cases h
      · simp only [Option.some.injEq, Prod.mk.injEq] at h3
        obtain ⟨-, rfl⟩ := h3
        exact ⟨h1, h2⟩
end Ad
/-- How a word lies in memory. -/
def tokE : Enc Ad.Tok where
  n := 11
  pos := by omega
  R := fun _ _ cs t => ∃ p l c, PathC p ∧ cs = [.int .i64 t.kind, .string ⟨t.text.toArray⟩, .int .i64 t.num] ++ p ++ [.int .i64 l, .int .i64 c]
  len := by
    rintro _ _ _ t ⟨p, l, c, ⟨pt, pa, pb, pc, pd, pe, rfl⟩, rfl⟩
    rfl
  keep := by
    intro _ _ _ _ _ _ h _ _
    exact h
  one := by
    rintro _ _ _ t ⟨p, l, c, ⟨pt, pa, pb, pc, pd, pe, rfl⟩, rfl⟩ u hu
    simp at hu
    rcases hu with rfl | rfl | rfl | rfl | rfl | rfl | rfl | rfl | rfl | rfl | rfl <;> rfl
end Go.Proofs.YtjikgmbhnknojaaGreatDoor

/- What lex.Scan returns: the words of a line, or that it has none. -/
namespace Go.Proofs.YtjikgmbhnknojaaGreatDoor
set_option linter.unusedVariables false
open Go Go.RowKit Go.BigFrame
def nowhere : Nat → Prop := fun _ => False
/-- What stands at a label of the scan. -/
def ScanJ (s : ByteArray) (L : Ad.Bs) (w : World) (l : Nat) (a : Act) (w' : World) : Prop :=
  ∃ (k : Nat) (ln bg : Int) (v : Value) (toks : List Ad.Tok), ScanF s k ln bg v a ∧ k ≤ s.size ∧ (0 ≤ ln ∧ ln ≤ k + 1) ∧ (0 ≤ bg ∧ bg ≤ k) ∧ toks.length ≤ k ∧ Ad.ScanAt L k toks ∧ OwnE tokE 55 w' w.heap.size nowhere v toks ∧ Below w.heap.size w w' ∧ (l = 0 ∨ (l = 1 ∧ ∃ c, L.drop k = c :: L.drop (k + 1) ∧ c.toNat = 35))
def ScanOut (s : ByteArray) (w : World) (e : Ending) (w' : World) : Prop :=
  ∃ x, (s.size ≤ 65536 → Ad.ScanR s.data.toList x) ∧ (65536 < s.size → x = none) ∧ match x with
    | none => ∃ a b er, er ≠ (0 : Int) ∧ e = .returned (.tuple #[.slice none 0 0, .int .i64 er, a, b])
    | some toks => ∃ g c, toks.length ≤ s.size ∧ e = .returned (.tuple #[.slice (some ⟨g, 0, none⟩) (toks.length + 1) c, .int .i64 0, .int .i64 0, .int .i64 0]) ∧ LAt tokE w' (New w w') (some ⟨g, 0, none⟩) (toks.length + 1) (toks ++ [⟨0, [], 0⟩]) ∧ toks.length + 1 ≤ c ∧ c ≤ maxLen
theorem infoWord : (Tryz.prog.info? 55).map (fun i => (i.zero, i.size, i.bytes)) = some (some (.agg zw), 11, 104) := by kernel_rfl

set_option maxRecDepth 100000 in
set_option maxHeartbeats 4000000 in
theorem scan_any (s : ByteArray) (w : World) (hs : s.size ≤ 100000) :
    Calls Tryz.prog 18 #[.string s] w fun e w' => ScanOut s w e w' ∧ Below w.heap.size w w' := by
  obtain ⟨L, hL⟩ : ∃ L, L = s.data.toList := ⟨_, rfl⟩
  have HLen := Lib.hid (show L.length = s.size by rw [hL]; simp)
  have HL := Lib.hid hL
  clear hL
  go_enter Tryz.func18, Tryz.ntmps18
  go_wp2
  by_cases hbig : 65536 < s.size
  · refine wp_scope_two (fun _ _ _ => False) (fun l a _ => 0) rfl rfl (fun _ _ _ h => h.elim) (fun _ _ h => h.elim) (fun _ _ h => h.elim) (fun _ => ?_)
    go_wp2_with fail
    rw [jumpsTo_ret]
    (try simp only [Exit.inBlock, Exit.then])
    refine bodyPost_ret (results_tmp4 rfl _ _ _) rfl ?_
    exact ⟨⟨none, fun h => by omega, fun _ => rfl, _, _, 2, by decide, rfl⟩, Below.refl _ _⟩
  · refine wp_scope_two (ScanJ s L w) (fun l a _ => 2 * (s.size - (intOf (a.tmps.getD 7 undef)).toNat) + (1 - l)) rfl rfl ?_ ?_ ?_ ?_
    · rintro l a w' ⟨k, ln, bg, v, toks, h1, h2, h3, h4, h5, h6, h7, h8, h | h⟩
      · exact Or.inl h
      · exact Or.inr h.1
    · rintro a w' ⟨k, ln, bg, v, toks, hf, hk, hln, hbg, htl, hat, hown, hbel, -⟩
      obtain ⟨u, rfl⟩ := hf.lit
      clear hf
      have HAT := Lib.hid hat
      clear hat
      by_cases hlt : k < s.size
      · have hd : L.drop k = s[k] :: L.drop (k + 1) := by
          rw [HL.out, List.drop_eq_getElem_cons (by simpa using hlt)]; rfl
        have HD := Lib.hid hd
        clear hd
        have hi1 : ∀ W : World, (Instr.index 9 (.string s) (.int .i64 (k : Int))).run Tryz.prog W = .ok (.int .u8 (s[k].toNat : Int)) W := fun W => idx_atu s k hlt rfl W
        have hc := s[k].toNat_lt
        generalize s[k] = c at *
        by_cases hbl : Ad.blank c
        · have HA := Lib.hid (HAT.out.skip HD.out hbl)
          have hbl2 : c.toNat = 10 ∨ (c.toNat ≠ 10 ∧ c.toNat = 32) ∨ (c.toNat ≠ 10 ∧ c.toNat ≠ 32 ∧ c.toNat = 9) ∨ (c.toNat ≠ 10 ∧ c.toNat ≠ 32 ∧ c.toNat ≠ 9 ∧ c.toNat = 13) := by unfold Ad.blank at hbl; omega
          clear hbl
          rcases hbl2 with h | ⟨h1, h⟩ | ⟨h1, h2, h⟩ | ⟨h1, h2, h3, h⟩
          · have q1 : ((c.toNat : Int) == 10) = true := by rw [h]; rfl
            clear h
            go_wp2_with fail
            go_step3
            exact ⟨⟨k + 1, ln + 1, (k : Int) + 1, v, toks, ⟨rfl, rfl, rfl, rfl, rfl, rfl, rfl, rfl, by go_num, by go_num, by go_num⟩, by omega, by omega, by omega, by omega, HA.out, hown, hbel, Or.inl rfl⟩, by simp [intOf]; omega⟩
          · have q1 : ((c.toNat : Int) == 10) = false := by rw [h]; rfl
            have q2 : ((c.toNat : Int) == 32) = true := by rw [h]; rfl
            clear h h1
            go_wp2_with fail
            go_step3
            exact ⟨⟨k + 1, ln, bg, v, toks, ⟨rfl, rfl, rfl, rfl, rfl, rfl, rfl, rfl, by go_num, by go_num, by go_num⟩, by omega, by omega, by omega, by omega, HA.out, hown, hbel, Or.inl rfl⟩, by simp [intOf]; omega⟩
          · have q1 : ((c.toNat : Int) == 10) = false := by rw [h]; rfl
            have q2 : ((c.toNat : Int) == 32) = false := by rw [h]; rfl
            have q3 : ((c.toNat : Int) == 9) = true := by rw [h]; rfl
            clear h h1 h2
            go_wp2_with fail
            go_step3
            exact ⟨⟨k + 1, ln, bg, v, toks, ⟨rfl, rfl, rfl, rfl, rfl, rfl, rfl, rfl, by go_num, by go_num, by go_num⟩, by omega, by omega, by omega, by omega, HA.out, hown, hbel, Or.inl rfl⟩, by simp [intOf]; omega⟩
          · have q1 : ((c.toNat : Int) == 10) = false := by rw [h]; rfl
            have q2 : ((c.toNat : Int) == 32) = false := by rw [h]; rfl
            have q3 : ((c.toNat : Int) == 9) = false := by rw [h]; rfl
            have q4 : ((c.toNat : Int) == 13) = true := by rw [h]; rfl
            clear h h1 h2 h3
            go_wp2_with fail
            go_step3
            exact ⟨⟨k + 1, ln, bg, v, toks, ⟨rfl, rfl, rfl, rfl, rfl, rfl, rfl, rfl, by go_num, by go_num, by go_num⟩, by omega, by omega, by omega, by omega, HA.out, hown, hbel, Or.inl rfl⟩, by simp [intOf]; omega⟩
        · have q1 : ((c.toNat : Int) == 10) = false := by rw [beq_eq_false_iff_ne]; unfold Ad.blank at hbl; omega
          have q2 : ((c.toNat : Int) == 32) = false := by rw [beq_eq_false_iff_ne]; unfold Ad.blank at hbl; omega
          have q3 : ((c.toNat : Int) == 9) = false := by rw [beq_eq_false_iff_ne]; unfold Ad.blank at hbl; omega
          have q4 : ((c.toNat : Int) == 13) = false := by rw [beq_eq_false_iff_ne]; unfold Ad.blank at hbl; omega
          by_cases h35 : c.toNat = 35
          · have q5 : ((c.toNat : Int) == 35) = true := by rw [h35]; rfl
            have HRM := Lib.hid (show ∃ c, L.drop k = c :: L.drop (k + 1) ∧ c.toNat = 35 from ⟨c, HD.out, h35⟩)
            clear hbl h35
            go_wp2_with fail
            go_step3
            exact ⟨⟨k, ln, bg, v, toks, ⟨rfl, rfl, rfl, rfl, rfl, rfl, rfl, rfl, by go_num, by go_num, by go_num⟩, by omega, by omega, by omega, by omega, HAT.out, hown, hbel, Or.inr ⟨rfl, HRM.out⟩⟩, by simp [intOf]⟩
          · have q5 : ((c.toNat : Int) == 35) = false := by rw [beq_eq_false_iff_ne]; omega
            have HW1 := Lib.hid (fun t n hw => HAT.out.word HD.out hbl h35 (t := t) (n := n) hw)
            have HW2 := Lib.hid (HAT.out.bad HD.out hbl h35)
            have hse : (s.extract k s.size).data.toList = L.drop k := by rw [HL.out]; simp [ByteArray.data_extract]; rw [List.take_of_length_le (by simp)]
            have KW0 : ∀ W : World, _ := fun W => word_any (s.extract k s.size) W (by rw [ByteArray.size_extract]; omega) (by rw [ByteArray.size_extract]; omega)
            unfold WordOut at KW0
            rw [hse] at KW0
            have KW := Lib.hid KW0
            clear hbl h35 hse KW0
            go_wp2_with fail
            refine (KW.out _).mono ?_
            rintro e w1 ⟨⟨x, hwr, hx⟩, hb1⟩
            have hown1 := hown.below hb1
            have hbel1 := hbel.trans (hb1.mono hbel.size)
            clear hown hbel hb1 KW hi1 q1 q2 q3 q4 q5
            cases x with
            | none =>
              obtain ⟨er, her, rfl⟩ := hx
              have HX := Lib.hid (HW2.out hwr)
              have hb2 : Below w1.heap.size w1 (w1.alloc (.cells zw 55)) := (Below.refl _ w1).alloc (Nat.le_refl _) _
              have q6 : (er != 0) = true := by rw [bne_iff_ne]; exact her
              have HER := Lib.hid her
              clear hwr her
              go_wp2_with (refine wpList_store_blk (cs' := zw) rfl 55 (.tmp 10) (.tmp 52) rfl w1.heap.size rfl rfl (Blk.new w1 55 zw) rfl (by kernel_rfl) (by simp [Value.oneCell']) ?_; intro w2 hk2 hg2; have B2 := Lib.hid (below_grown hg2 (show w1.heap.size ≤ _ by simp) (Nat.le_refl _)); clear hk2 hg2)
              rw [jumpsTo_ret]
              (try simp only [Exit.inBlock, Exit.then])
              refine bodyPost_ret (results_tmp4 rfl _ _ _) rfl ?_
              exact ⟨⟨none, fun _ => HL.out ▸ HX.out, fun _ => rfl, _, _, er, HER.out, rfl⟩, hbel1.trans ((hb2.trans (B2.out.mono (Nat.le_refl _))).mono hbel1.size)⟩
            | some y =>
              obtain ⟨t, n⟩ := y
              obtain ⟨cs, ⟨p, ⟨pt, pa, pb, pc, pd, pe, rfl⟩, rfl⟩, rfl⟩ := hx
              have HX := Lib.hid (HW1.out t n hwr)
              have hn := Ad.wordR_len hwr
              have hn2 : k + n ≤ s.size := by have := HLen.out; rw [List.length_drop] at hn; omega
              obtain ⟨hn1, -⟩ := hn
              clear hwr HW1 HW2 HAT
              obtain ⟨it, J1, J2, J3, J4⟩ := info_parts infoWord
              have NW := Lib.hid (fun (W : World) (l c : Int) (g : Nat) (hg : W.heap.size = g) => hg ▸ news_one (E := tokE) (w := W) (S := nowhere) (x := t) (cs := [.int .i64 t.kind, .string ⟨t.text.toArray⟩, .int .i64 t.num, .string pt, .int .i64 pa, .int .i64 pb, .int .i64 pc, .int .i64 pd, .int .i64 pe, .int .i64 l, .int .i64 c]) (T' := 55) ⟨_, l, c, ⟨pt, pa, pb, pc, pd, pe, rfl⟩, rfl⟩ (fun b hb => hb.elim))
              go_wp2_with (first | (refine wpList_store_blk (cs' := #[.int .i64 t.kind, .string ⟨t.text.toArray⟩, .int .i64 t.num, .string pt, .int .i64 pa, .int .i64 pb, .int .i64 pc, .int .i64 pd, .int .i64 pe, .int .i64 0, .int .i64 0]) rfl 55 (.tmp 10) (.tmp 52) rfl w1.heap.size rfl rfl (Blk.new w1 55 zw) rfl (by kernel_rfl) (by simp [Value.oneCell']) ?_; intro w2 hk2 hg2; have K2 := Lib.hid hk2; have B2 := Lib.hid (((Below.refl _ w1).alloc (Nat.le_refl _) (.cells zw 55)).trans ((below_grown hg2 (show w1.heap.size ≤ _ by simp) (Nat.le_refl _)))); have d2 := hk2.cell; have f2 := hk2.frozen; clear hk2 hg2) | (at_builtin; go_loud (refine wpList_append_E rfl (.tmp 70) (.tmp 72) _ rfl it (.agg zw) 104 Tryz.underlying49 J1 J2 J3 J4 rfl rfl (hown1.below (((B2.out.setCell (Nat.le_refl _) _).setCell (Nat.le_refl _) _).alloc (by have := B2.out.size; simp; omega) _)) ⟨_, 0, none⟩ 1 1 [t] rfl rfl (NW.out _ _ _ _ (by simp)) (by omega) (by omega) (by have := B2.out.size; have := hbel1.size; simp; omega) ?_; intro o4 w4 hown4 hb4 hg4 hw4)))
              have Hb4 := Lib.hid (hbel1.trans ((((B2.out.setCell (p := ⟨w1.heap.size, 9, none⟩) (Nat.le_refl _) (.int .i64 ln)).setCell (p := ⟨w1.heap.size, 10, none⟩) (Nat.le_refl _) (.int .i64 ((k : Int) - bg + 1))).alloc (by have := B2.out.size; simp; omega) _).mono hbel1.size) |>.trans hb4)
              clear hb4 hg4 hw4 d2 f2 NW K2 B2 hown1 hbel1 J1 J2 J3 J4
              go_wp2_with fail
              go_step3
              exact ⟨⟨k + n, ln, bg, o4, toks ++ [t], ⟨rfl, rfl, rfl, rfl, rfl, rfl, rfl, rfl, by go_num, by go_num, by go_num⟩, by omega, by omega, by omega, by simp; omega, HX.out, hown4, Hb4.out, Or.inl rfl⟩, by simp [intOf]; omega⟩
      · obtain rfl : k = s.size := by omega
        have HX := Lib.hid (HAT.out.done (by rw [HLen.out]; exact Nat.le_refl _))
        obtain ⟨it, J1, J2, J3, J4⟩ := info_parts infoWord
        have NW := Lib.hid (fun (W : World) (l c : Int) (g : Nat) (hg : W.heap.size = g) => hg ▸ news_one (E := tokE) (w := W) (S := nowhere) (x := ⟨0, [], 0⟩) (cs := [.int .i64 0, .string ⟨#[]⟩, .int .i64 0, .string ⟨#[]⟩, .int .i64 0, .int .i64 0, .int .i64 0, .int .i64 0, .int .i64 0, .int .i64 l, .int .i64 c]) (T' := 55) ⟨_, l, c, ⟨_, _, _, _, _, _, rfl⟩, rfl⟩ (fun b hb => hb.elim))
        clear HAT
        go_wp2_with (at_builtin; go_loud (refine wpList_append_E rfl (.tmp 20) (.tmp 27) _ rfl it (.agg zw) 104 Tryz.underlying49 J1 J2 J3 J4 rfl rfl (hown.alloc _) ⟨_, 0, none⟩ 1 1 [⟨0, [], 0⟩] rfl rfl (NW.out _ _ _ _ (by simp)) (by omega) (by omega) (by have := hbel.size; simp; omega) ?_; intro o4 w4 hown4 hb4 hg4 hw4))
        have Hb4 := Lib.hid ((hbel.alloc hbel.size _).trans hb4)
        clear hb4 hg4 hw4
        rw [jumpsTo_ret]
        (try simp only [Exit.inBlock, Exit.then])
        refine bodyPost_ret (results_tmp4 rfl _ _ _) rfl ?_
        obtain ⟨A, c, e1, hok, hl⟩ := Enc.list_inv (hown4.reads (S' := New w w4) (fun b hb => hb.elim) (fun g hg => hown4.own_lt hg) (by simp; omega))
        rcases hown4.form with ⟨_, h⟩ | ⟨g, cap, e2, -, -, hnc, hcm⟩
        · simp at h
        · rw [e2] at e1
          injection e1 with e3 _ e4
          subst e2 e3 e4
          rw [List.length_append, List.length_singleton] at hl hnc ⊢
          exact ⟨⟨some toks, fun _ => HL.out ▸ HX.out, fun h => by omega, g, cap, htl, rfl, hl, hnc, hcm⟩, Hb4.out⟩
    · rintro a w' ⟨k, ln, bg, v, toks, hf, hk, hln, hbg, htl, hat, hown, hbel, h⟩
      obtain h | ⟨-, c, hd, h35⟩ := h
      · cases h
      obtain ⟨u, rfl⟩ := hf.lit
      have HAT := Lib.hid (fun j => hat.remark hd h35 j)
      have hkl : k < s.size := by
        have := congrArg List.length hd
        rw [List.length_drop, HLen.out] at this
        simp at this
        omega
      have HK := Lib.hid (show s[k].toNat = 35 from by
        have h1 : L.drop k = s[k] :: L.drop (k + 1) := by
          rw [HL.out, List.drop_eq_getElem_cons (by simpa using hkl)]; rfl
        rw [hd] at h1
        injection h1 with h1 _
        rw [← h1]
        exact h35)
      clear hf hat hd h35 c
      go_wp2_with fail
      go_loopw [7] (fun x wr => ∃ j : Nat, x = .int .i64 j ∧ k ≤ j ∧ j ≤ s.size ∧ wr = w') (fun x _ => s.size - (intOf x).toNat)
      case atStart => exact ⟨k, rfl, Nat.le_refl _, hk, rfl⟩
      case round =>
        obtain ⟨j, rfl, hkj, hj, rfl⟩ := hrel
        by_cases hlt : j < s.size
        · have hi1 : ∀ W : World, (Instr.index 9 (.string s) (.int .i64 (j : Int))).run Tryz.prog W = .ok (.int .u8 (s[j].toNat : Int)) W := fun W => idx_atu s j hlt rfl W
          have hkk : k < s.size := hkl
          by_cases h10 : s[j].toNat = 10
          · have hne : k + 1 ≤ j := by
              rcases Nat.lt_or_ge k j with h | h
              · exact h
              · have : j = k := by omega
                subst this
                rw [HK.out] at h10
                cases h10
            have q1 : ((s[j].toNat : Int) != 10) = false := by rw [h10]; rfl
            have HA := Lib.hid (HAT.out (j - (k + 1)))
            rw [show k + 1 + (j - (k + 1)) = j by omega] at HA
            clear h10
            go_wp2_with fail
            go_step3
            exact ⟨⟨j, ln, bg, v, toks, ⟨rfl, rfl, rfl, rfl, rfl, rfl, rfl, rfl, rfl, rfl, rfl⟩, hj, by omega, by omega, by omega, HA.out, hown, hbel, Or.inl rfl⟩, by simp [intOf]; omega⟩
          · have q1 : ((s[j].toNat : Int) != 10) = true := by rw [bne_iff_ne]; omega
            clear h10
            go_wp2_with fail
            go_roundw
            case rel => exact ⟨j + 1, by go_num, by omega, by omega, by trivial⟩
            case measure => simp [intOf]; omega
        · obtain rfl : j = s.size := by omega
          have HA := Lib.hid (HAT.out (s.size - (k + 1)))
          rw [show k + 1 + (s.size - (k + 1)) = s.size by omega] at HA
          go_wp2_with fail
          go_step3
          exact ⟨⟨s.size, ln, bg, v, toks, ⟨rfl, rfl, rfl, rfl, rfl, rfl, rfl, rfl, rfl, rfl, rfl⟩, Nat.le_refl _, by omega, by omega, by omega, HA.out, hown, hbel, Or.inl rfl⟩, by simp [intOf]; omega⟩
    · intro hgo
      have HG := Lib.hid hgo
      clear hgo
      go_wp2
      go_step3
      rename_i K hK
      refine hK _ _ (HG.out _ _ ?_)
      exact ⟨0, 1, 0, .slice none 0 0, [], ⟨rfl, rfl, rfl, rfl, rfl, rfl, rfl, rfl, rfl, rfl, rfl⟩, by omega, by omega, by omega, by simp, Ad.ScanAt.start L, OwnE.nil (fun b hb => hb.elim), Below.refl _ _, Or.inl rfl⟩
end Go.Proofs.YtjikgmbhnknojaaGreatDoor
