/- Part A4 of the proof: the statement that is proved stands in the text that ends with its name. No conditions beyond the card's. -/
import Derived.Test.YtmabpnmnppfgaaaGreatDoorA3
import Derived.RegionTactic
import Derived.Lib.Join
namespace Go.Proofs.YtmabpnmnppfgaaaGreatDoor
set_option linter.unusedVariables false
open Go Go.RowKit Go.BigFrame
def WV (t : Ad.Tok) (cs : List Value) : Prop := ∃ p, PathC p ∧ cs = [.int .i64 t.kind, .string ⟨t.text.toArray⟩, .int .i64 t.num] ++ p ++ [.int .i64 0, .int .i64 0]
abbrev zw : Array Value := #[.int .i64 0, .string ⟨#[]⟩, .int .i64 0, .string ⟨#[]⟩, .int .i64 0, .int .i64 0, .int .i64 0, .int .i64 0, .int .i64 0, .int .i64 0, .int .i64 0]
namespace Ad
def wordX (s : Bs) : Except Int (Tok × Nat) :=
  match s with
  | [] => .error 80
  | c :: r =>
    if letter c = true then (if 32 < run nameC s then .error 2 else .ok (⟨1, s.take (run nameC s), 0⟩, run nameC s))
    else if digit c = true then (if P.numOk (s.take (run digit s)) = true then .ok (⟨2, s.take (run digit s), P.numV (s.take (run digit s))⟩, run digit s) else .error 80)
    else if c.toNat = 34 then (match text r with
      | none => .error 80
      | some (v, n) => if 4096 < v.length then .error 2 else .ok (⟨3, v, 0⟩, n + 1))
    else if c.toNat = 64 then (if pathOk (r.take (run pathC r)) = true then .ok (⟨4, r.take (run pathC r), 0⟩, 1 + run pathC r) else .error 80)
    else if signN s = 0 then .error 80 else .ok (⟨5, s.take (signN s), 0⟩, signN s)
end Ad
def WordOut (s : ByteArray) (e : Ending) : Prop :=
  match Ad.wordX s.data.toList with
  | .error er => e = .returned (.tuple #[.agg zw, .int .i64 0, .int .i64 er])
  | .ok x => ∃ cs, WV x.1 cs ∧ e = .returned (.tuple #[.agg cs.toArray, .int .i64 (x.2 : Nat), .int .i64 0])
theorem WordOut.bad {s : ByteArray} {er : Int} (h : Ad.wordX s.data.toList = .error er) : WordOut s (.returned (.tuple #[.agg zw, .int .i64 0, .int .i64 er])) := by
  unfold WordOut
  rw [h]
theorem WordOut.good {s : ByteArray} {t : Ad.Tok} {n : Nat} {cs : List Value} (h : Ad.wordX s.data.toList = .ok (t, n)) (hv : WV t cs) : WordOut s (.returned (.tuple #[.agg cs.toArray, .int .i64 (n : Nat), .int .i64 0])) := by
  unfold WordOut
  rw [h]
  exact ⟨cs, hv, rfl⟩
theorem results_cell_tmp2 {fn : Func} {p u v : Tmp} {ty : TypeId} (h : fn.results = #[.cell p ty, .tmp u, .tmp v]) (tmps : Array Value) (P : Program) (w : World) :
    (results fn tmps).run P w =
      ((asAddr (tmps.getD p undef)).run P w).andThen fun a w₁ => ((loadVar ty a).run P w₁).andThen fun x w₂ => .ok (.tuple #[x, tmps.getD u undef, tmps.getD v undef]) w₂ := by
  simp only [results, h]
  simp [Sem.run_bind, Result.andThen]
set_option maxRecDepth 100000 in
theorem word_res {W : World} {tmps : Array Value} {g : Nat} {v3 v4 : Value} {cs : Array Value} (hW : Blk W g 71 cs) (hl : cs.size = 11) (h2 : tmps.getD 2 undef = .pointer (some ⟨g, 0, none⟩)) (h3 : tmps.getD 3 undef = v3) (h4 : tmps.getD 4 undef = v4) :
    (results Tryz.f131 tmps).run Tryz.prog W = .ok (.tuple #[.agg cs, v3, v4]) W := by
  rw [results_cell_tmp2 rfl, h2, h3, h4]
  have hi : (Tryz.prog.info? 71).map (·.size) = some cs.size := by rw [hl]; kernel_rfl
  have h := run_loadVar_row (P := Tryz.prog) W g 71 71 cs (0, 0) _ hW Tryz.underlying71 rfl hi
  simp only [asAddr, Sem.run_pure, Result.andThen_ok, h]
theorem wrote11 {w W : World} {g : Nat} {t : TypeId} (h : Blk W g t zw) (hb : Below w.heap.size w W) (hg : w.heap.size ≤ g) (a b c d e f i j k l m : Value) :
    Blk (((((((((((W.setCell ⟨g, 0, none⟩ a).setCell ⟨g, 1, none⟩ b).setCell ⟨g, 2, none⟩ c).setCell ⟨g, 3, none⟩ d).setCell ⟨g, 4, none⟩ e).setCell ⟨g, 5, none⟩ f).setCell ⟨g, 6, none⟩ i).setCell ⟨g, 7, none⟩ j).setCell ⟨g, 8, none⟩ k).setCell ⟨g, 9, none⟩ l).setCell ⟨g, 10, none⟩ m) g t #[a, b, c, d, e, f, i, j, k, l, m] ∧
    Below w.heap.size w (((((((((((W.setCell ⟨g, 0, none⟩ a).setCell ⟨g, 1, none⟩ b).setCell ⟨g, 2, none⟩ c).setCell ⟨g, 3, none⟩ d).setCell ⟨g, 4, none⟩ e).setCell ⟨g, 5, none⟩ f).setCell ⟨g, 6, none⟩ i).setCell ⟨g, 7, none⟩ j).setCell ⟨g, 8, none⟩ k).setCell ⟨g, 9, none⟩ l).setCell ⟨g, 10, none⟩ m) := by
  constructor
  · have hx := ((((((((((h.set_ 0 a).set_ 1 b).set_ 2 c).set_ 3 d).set_ 4 e).set_ 5 f).set_ 6 i).set_ 7 j).set_ 8 k).set_ 9 l).set_ 10 m
    simp only [List.setIfInBounds_toArray, List.set_cons_zero, List.set_cons_succ] at hx
    exact hx
  · exact ((((((((((hb.setCell hg a).setCell hg b).setCell hg c).setCell hg d).setCell hg e).setCell hg f).setCell hg i).setCell hg j).setCell hg k).setCell hg l).setCell hg m
end Go.Proofs.YtmabpnmnppfgaaaGreatDoor
namespace Go.Proofs.YtmabpnmnppfgaaaGreatDoor
set_option linter.unusedVariables false
open Go Go.RowKit
theorem results_tmp4 {fn : Func} {t u v x : Tmp} (h : fn.results = #[.tmp t, .tmp u, .tmp v, .tmp x]) (tmps : Array Value) (P : Program) (w : World) :
    (results fn tmps).run P w = .ok (.tuple #[tmps.getD t undef, tmps.getD u undef, tmps.getD v undef, tmps.getD x undef]) w := by
  simp [results, h]
theorem arr_of {T : Array Value} (n : Nat) (h : T.size = n) : T = ((List.range n).map fun i => T.getD i undef).toArray := by
  apply Array.ext_getElem?
  intro i
  simp
  rcases Nat.lt_or_ge i n with hi | hi
  · rw [List.getElem?_range hi]
    simp [h, hi]
  · rw [Array.getElem?_eq_none (by omega), List.getElem?_eq_none (by simpa using hi)]
    rfl
set_option maxRecDepth 100000 in
theorem frame89 {T : Array Value} (h : T.size = 89) : T = #[T.getD 0 undef, T.getD 1 undef, T.getD 2 undef, T.getD 3 undef, T.getD 4 undef, T.getD 5 undef, T.getD 6 undef, T.getD 7 undef, T.getD 8 undef, T.getD 9 undef, T.getD 10 undef, T.getD 11 undef, T.getD 12 undef, T.getD 13 undef, T.getD 14 undef, T.getD 15 undef, T.getD 16 undef, T.getD 17 undef, T.getD 18 undef, T.getD 19 undef, T.getD 20 undef, T.getD 21 undef, T.getD 22 undef, T.getD 23 undef, T.getD 24 undef, T.getD 25 undef, T.getD 26 undef, T.getD 27 undef, T.getD 28 undef, T.getD 29 undef, T.getD 30 undef, T.getD 31 undef, T.getD 32 undef, T.getD 33 undef, T.getD 34 undef, T.getD 35 undef, T.getD 36 undef, T.getD 37 undef, T.getD 38 undef, T.getD 39 undef, T.getD 40 undef, T.getD 41 undef, T.getD 42 undef, T.getD 43 undef, T.getD 44 undef, T.getD 45 undef, T.getD 46 undef, T.getD 47 undef, T.getD 48 undef, T.getD 49 undef, T.getD 50 undef, T.getD 51 undef, T.getD 52 undef, T.getD 53 undef, T.getD 54 undef, T.getD 55 undef, T.getD 56 undef, T.getD 57 undef, T.getD 58 undef, T.getD 59 undef, T.getD 60 undef, T.getD 61 undef, T.getD 62 undef, T.getD 63 undef, T.getD 64 undef, T.getD 65 undef, T.getD 66 undef, T.getD 67 undef, T.getD 68 undef, T.getD 69 undef, T.getD 70 undef, T.getD 71 undef, T.getD 72 undef, T.getD 73 undef, T.getD 74 undef, T.getD 75 undef, T.getD 76 undef, T.getD 77 undef, T.getD 78 undef, T.getD 79 undef, T.getD 80 undef, T.getD 81 undef, T.getD 82 undef, T.getD 83 undef, T.getD 84 undef, T.getD 85 undef, T.getD 86 undef, T.getD 87 undef, T.getD 88 undef] := arr_of 89 h
def ScanF (s : ByteArray) (k : Nat) (ln bg : Int) (v : Value) (a : Act) : Prop :=
  a.defers = [] ∧ a.tmps.size = 89 ∧ a.tmps.getD 0 undef = .string s ∧ a.tmps.getD 2 undef = .slice none 0 0 ∧ a.tmps.getD 3 undef = .int .i64 0 ∧ a.tmps.getD 4 undef = .int .i64 0 ∧ a.tmps.getD 5 undef = .int .i64 0 ∧ a.tmps.getD 6 undef = v ∧ a.tmps.getD 7 undef = .int .i64 (k : Int) ∧ a.tmps.getD 8 undef = .int .i64 ln ∧ a.tmps.getD 9 undef = .int .i64 bg
theorem ScanF.lit {s : ByteArray} {k : Nat} {ln bg : Int} {v : Value} {a : Act} (h : ScanF s k ln bg v a) : ∃ u : Nat → Value, a = { tmps := #[.string s, u 1, .slice none 0 0, .int .i64 0, .int .i64 0, .int .i64 0, v, .int .i64 (k : Int), .int .i64 ln, .int .i64 bg, u 10, u 11, u 12, u 13, u 14, u 15, u 16, u 17, u 18, u 19, u 20, u 21, u 22, u 23, u 24, u 25, u 26, u 27, u 28, u 29, u 30, u 31, u 32, u 33, u 34, u 35, u 36, u 37, u 38, u 39, u 40, u 41, u 42, u 43, u 44, u 45, u 46, u 47, u 48, u 49, u 50, u 51, u 52, u 53, u 54, u 55, u 56, u 57, u 58, u 59, u 60, u 61, u 62, u 63, u 64, u 65, u 66, u 67, u 68, u 69, u 70, u 71, u 72, u 73, u 74, u 75, u 76, u 77, u 78, u 79, u 80, u 81, u 82, u 83, u 84, u 85, u 86, u 87, u 88], defers := [] } := by
  obtain ⟨hd, hs, h0, h2, h3, h4, h5, h6, h7, h8, h9⟩ := h
  obtain ⟨T, D⟩ := a
  simp only at hd hs h0 h2 h3 h4 h5 h6 h7 h8 h9
  refine ⟨fun i => T.getD i undef, ?_⟩
  subst hd
  have e := frame89 hs
  rw [h0, h2, h3, h4, h5, h6, h7, h8, h9] at e
  exact congrArg (fun T => ({ tmps := T, defers := [] } : Act)) e
namespace Ad
def inLine (c : UInt8) : Bool := decide (c.toNat ≠ 10)
inductive ScanX : Bs → Except Int (List Tok) → Prop
  | nil : ScanX [] (.ok [])
  | skip (c : UInt8) (r : Bs) (x : Except Int (List Tok)) : blank c → ScanX r x → ScanX (c :: r) x
  | remark (c : UInt8) (r : Bs) (x : Except Int (List Tok)) : c.toNat = 35 → ScanX (r.dropWhile inLine) x → ScanX (c :: r) x
  | bad (c : UInt8) (r : Bs) (er : Int) : ¬ blank c → c.toNat ≠ 35 → wordX (c :: r) = .error er → ScanX (c :: r) (.error er)
  | word (c : UInt8) (r : Bs) (t : Tok) (n : Nat) (x : Except Int (List Tok)) : ¬ blank c → c.toNat ≠ 35 → wordX (c :: r) = .ok (t, n) → ScanX ((c :: r).drop n) x → ScanX (c :: r) (x.map (t :: ·))
theorem ScanX.unique {l : Bs} {x y : Except Int (List Tok)} (h : ScanX l x) (k : ScanX l y) : x = y := by
  induction h generalizing y with
  | nil => cases k; rfl
  | skip c r x hb _ ih =>
    cases k with
    | skip _ _ _ _ k => exact ih k
    | remark _ _ _ h2 _ => unfold blank at hb; omega
    | bad _ _ _ h2 _ _ => exact absurd hb h2
    | word _ _ _ _ _ h2 _ _ _ => exact absurd hb h2
  | remark c r x hb _ ih =>
    cases k with
    | skip _ _ _ h2 k => unfold blank at h2; omega
    | remark _ _ _ h2 k => exact ih k
    | bad _ _ _ _ h2 _ => exact absurd hb h2
    | word _ _ _ _ _ _ h2 _ _ => exact absurd hb h2
  | bad c r er h1 h2 h3 =>
    cases k with
    | skip _ _ _ h4 k => exact absurd h4 h1
    | remark _ _ _ h4 k => exact absurd h4 h2
    | bad _ _ _ _ _ h4 => rw [h3] at h4; cases h4; rfl
    | word _ _ _ _ _ _ _ h4 _ => rw [h3] at h4; cases h4
  | word c r t n x h1 h2 h3 _ ih =>
    cases k with
    | skip _ _ _ h4 k => exact absurd h4 h1
    | remark _ _ _ h4 k => exact absurd h4 h2
    | bad _ _ _ _ _ h4 => rw [h3] at h4; cases h4
    | word _ _ _ _ _ _ _ h4 k =>
      rw [h3] at h4
      cases h4
      rw [ih k]
theorem dropW (p : UInt8 → Bool) (l : Bs) (m : Nat) (h : ∀ j, j < m → ∃ c, l[j]? = some c ∧ p c = true) (he : ∀ c, l[m]? = some c → p c = false) : l.dropWhile p = l.drop m := by
  induction m generalizing l with
  | zero =>
    cases l with
    | nil => rfl
    | cons a l => rw [List.dropWhile_cons_of_neg (by simp [he a rfl])]; rfl
  | succ m ih =>
    cases l with
    | nil =>
      obtain ⟨c, hc, _⟩ := h 0 (by omega)
      cases hc
    | cons a l =>
      obtain ⟨c, hc, hp⟩ := h 0 (by omega)
      simp at hc
      subst hc
      rw [List.dropWhile_cons_of_pos hp, List.drop_succ_cons]
      exact ih l (fun j hj => by have := h (j + 1) (by omega); simpa using this) (fun c hc => he c (by simpa using hc))
def ScanAt (L : Bs) (k : Nat) (toks : List Tok) : Prop := ∀ x, ScanX (L.drop k) x → ScanX L (x.map (toks ++ ·))
theorem ScanAt.start (L : Bs) : ScanAt L 0 [] := fun x h => by
  have : x.map (([] : List Tok) ++ ·) = x := by cases x <;> simp [Except.map]
  rw [this]
  exact h
section
variable {L : Bs} {k : Nat} {toks : List Tok}
theorem ScanAt.skip (h : ScanAt L k toks) {c : UInt8} (hd : L.drop k = c :: L.drop (k + 1)) (hb : blank c) : ScanAt L (k + 1) toks := fun x hx => by
  refine h x ?_
  rw [hd]
  exact .skip c _ x hb hx
theorem ScanAt.remark (h : ScanAt L k toks) {c : UInt8} (hd : L.drop k = c :: L.drop (k + 1)) (hb : c.toNat = 35) (j : Nat) (hj : (L.drop (k + 1)).dropWhile inLine = L.drop j) : ScanAt L j toks := fun x hx => by
  refine h x ?_
  rw [hd]
  refine .remark c _ x hb ?_
  rw [hj]
  exact hx
theorem ScanAt.word (h : ScanAt L k toks) {c : UInt8} (hd : L.drop k = c :: L.drop (k + 1)) (hb : ¬ blank c) (hr : c.toNat ≠ 35) {t : Tok} {n : Nat} (hw : wordX (L.drop k) = .ok (t, n)) : ScanAt L (k + n) (toks ++ [t]) := fun x hx => by
  have h2 := h (x.map (t :: ·)) (by
    rw [hd] at hw ⊢
    refine .word c _ t n x hb hr hw ?_
    rw [← hd, List.drop_drop]
    exact hx)
  have e : (x.map (t :: ·)).map (toks ++ ·) = x.map (toks ++ [t] ++ ·) := by cases x <;> simp [Except.map]
  rw [← e]
  exact h2
theorem ScanAt.bad (h : ScanAt L k toks) {c : UInt8} (hd : L.drop k = c :: L.drop (k + 1)) (hb : ¬ blank c) (hr : c.toNat ≠ 35) {er : Int} (hw : wordX (L.drop k) = .error er) : ScanX L (.error er) := by
  refine h (.error er) ?_
  rw [hd] at hw ⊢
  exact .bad c _ er hb hr hw
theorem ScanAt.done (h : ScanAt L k toks) (hk : L.length ≤ k) : ScanX L (.ok toks) := by
  have := h (.ok []) (by rw [List.drop_eq_nil_of_le hk]; exact .nil)
  simpa [Except.map] using this
end
theorem run_pos {p : UInt8 → Bool} {c : UInt8} {r : Bs} (h : p c = true) : 1 ≤ run p (c :: r) := by
  unfold run
  simp [List.takeWhile, h]
theorem wordX_len {s : Bs} {t : Tok} {n : Nat} (h : wordX s = .ok (t, n)) : 1 ≤ n ∧ n ≤ s.length := by
  unfold wordX at h
  split at h
  · cases h
  · rename_i c r
    split at h
    · rename_i h1
      split at h
      · cases h
      · cases h
        exact ⟨run_pos (by unfold nameC; simp [h1]), run_le _ _⟩
    · split at h
      · rename_i h2
        split at h
        · cases h
          exact ⟨run_pos h2, run_le _ _⟩
        · cases h
      · split at h
        · cases ht : text r with
          | none => rw [ht] at h; cases h
          | some y =>
            obtain ⟨v, m⟩ := y
            have hl := text_len _ r v m (Nat.le_refl _) ht
            rw [ht] at h
            simp only at h
            split at h
            · cases h
            · cases h
              simp
              omega
        · split at h
          · split at h
            · cases h
              have := run_le pathC r
              simp
              omega
            · cases h
          · split at h
            · cases h
            · cases h
              rename_i h5
              exact ⟨by omega, signN_len _⟩
theorem wordX_err {s : Bs} {er : Int} (h : wordX s = .error er) : er = 80 ∨ er = 2 := by
  unfold wordX at h
  repeat' split at h
  all_goals cases h
  all_goals simp
theorem wordX_R {c : UInt8} {r : Bs} {x : Except Int (Tok × Nat)} (h : wordX (c :: r) = x) : WordR (c :: r) x.toOption := by
  subst h
  unfold WordR
  simp only
  split
  · rename_i hc
    unfold wordF wordX
    simp only
    split
    · split <;> rfl
    · split
      · split <;> rfl
      · rw [if_pos (by simp_all)]
        cases text r with
        | none => rfl
        | some y =>
          simp only
          split <;> rfl
  · rename_i hc
    cases hx : wordX (c :: r) with
    | error er => exact .inl rfl
    | ok y =>
      obtain ⟨t, n⟩ := y
      have hl := wordX_len hx
      refine .inr ⟨t, n, hl.1, hl.2, ?_, rfl⟩
      unfold wordX at hx
      simp only at hx
      rw [if_neg (by simp_all), if_neg (by simp_all), if_neg (by simp_all)] at hx
      split at hx
      · split at hx
        · cases hx; exact .inl rfl
        · cases hx
      · split at hx
        · cases hx
        · cases hx; exact .inr rfl
theorem scanX_R {l : Bs} {x : Except Int (List Tok)} (h : ScanX l x) : ScanR l x.toOption := by
  induction h with
  | nil => exact .nil
  | skip c r x hb _ ih => exact .skip c r _ hb ih
  | remark c r x hb _ ih =>
    obtain ⟨k, hk⟩ : ∃ k, r.dropWhile inLine = r.drop k := ⟨r.length - (r.dropWhile inLine).length, by
      obtain ⟨p, hp⟩ := List.dropWhile_suffix (l := r) inLine
      have e : r.length - (r.dropWhile inLine).length = p.length := by rw [← congrArg List.length hp]; simp
      rw [e]
      conv => rhs; rw [← hp]
      simp⟩
    rw [hk] at ih
    exact .remark c r k _ hb ih
  | bad c r er h1 h2 h3 => exact .bad c r h1 h2 (wordX_R h3)
  | word c r t n x h1 h2 h3 _ ih =>
    have e : (x.map (t :: ·)).toOption = x.toOption.map (t :: ·) := by cases x <;> rfl
    rw [e]
    exact .word c r t n _ h1 h2 (wordX_R h3) ih
theorem scanX_err {l : Bs} {x : Except Int (List Tok)} (h : ScanX l x) : ∀ er, x = .error er → er = 80 ∨ er = 2 := by
  induction h with
  | nil => intro er h; cases h
  | skip _ _ _ _ _ ih => exact ih
  | remark _ _ _ _ _ ih => exact ih
  | bad _ _ _ _ _ h3 => intro er h; cases h; exact wordX_err h3
  | word _ _ _ _ x _ _ _ _ ih =>
    intro er h
    cases x with
    | error e => cases h; exact ih _ rfl
    | ok l => cases h
end Ad
def tokE : Enc Ad.Tok where
  n := 11
  pos := by omega
  R := fun _ _ cs t => ∃ p l c, PathC p ∧ cs = [.int .i64 t.kind, .string ⟨t.text.toArray⟩, .int .i64 t.num] ++ p ++ [.int .i64 l, .int .i64 c]
  len := by
    rintro _ _ _ t ⟨p, l, c, ⟨pt, pa, pb, pc, pd, pe, rfl⟩, rfl⟩
    rfl
  keep := by
    intro _ _ _ _ _ _ h _ _
    exact h
  one := by
    rintro _ _ _ t ⟨p, l, c, ⟨pt, pa, pb, pc, pd, pe, rfl⟩, rfl⟩ u hu
    simp at hu
    rcases hu with rfl | rfl | rfl | rfl | rfl | rfl | rfl | rfl | rfl | rfl | rfl <;> rfl
end Go.Proofs.YtmabpnmnppfgaaaGreatDoor
namespace Go.Proofs.YtmabpnmnppfgaaaGreatDoor
set_option linter.unusedVariables false
open Go
namespace Ad
structure Step where
  word : Bs
  nums : List Int
  name : Bs
  data : Bs
abbrev Shape := Bool × Bool × Bool
def shapeL : List (ByteArray × Shape) :=
  [(⟨#[108, 111, 97, 100]⟩, true, false, false), (⟨#[99, 111, 110, 102]⟩, false, false, false), (⟨#[108, 105, 115, 116]⟩, false, false, false), (⟨#[100, 101, 112, 108, 111, 121]⟩, false, true, false), (⟨#[117, 110, 100, 101, 112, 108, 111, 121]⟩, false, true, false), (⟨#[105, 100, 115]⟩, false, true, false), (⟨#[99, 111, 117, 110, 116, 115]⟩, false, true, false), (⟨#[115, 104, 111, 119]⟩, false, true, true), (⟨#[114, 101, 112, 114, 111, 99, 101, 115, 115]⟩, false, true, true), (⟨#[114, 97, 119]⟩, false, true, true)]
def shapeF (l : Bs) : Option Shape := Dk.get shapeL ⟨l.toArray⟩
theorem shape_word {l : Bs} {sh : Shape} (h : shapeF l = some sh) : (l ≠ [] ∧ l.all letter = true ∧ l.length ≤ 10) ∧ (sh = (true, false, false) ∨ sh = (false, false, false) ∨ sh = (false, true, false) ∨ sh = (false, true, true)) := by
  have hm := Dk.get_mem h
  have key : ∀ (a : Bs) (s : Shape), (⟨l.toArray⟩, sh) = ((⟨a.toArray⟩ : ByteArray), s) → l = a ∧ sh = s := by
    intro a s he
    simp only [Prod.mk.injEq, ByteArray.mk.injEq] at he
    exact ⟨by simpa using congrArg Array.toList he.1, he.2⟩
  simp only [shapeL, List.mem_cons, List.mem_nil_iff, or_false] at hm
  rcases hm with hm | hm | hm | hm | hm | hm | hm | hm | hm | hm
  all_goals
    obtain ⟨rfl, rfl⟩ := key _ _ hm
    decide
def isName (s : Bs) : Bool := match s with | [] => false | c :: _ => decide (s.length ≤ 32) && letter c && decide (run nameC s = s.length)
def zt : Tok := ⟨0, [], 0⟩
def takeF (want : Bool) (ks : List Int) (ok : Bool) : List Tok → Tok × List Tok × Bool
  | [] => (zt, [], false)
  | t :: r => if want = true ∧ t.kind ∈ ks then (t, r, ok) else (zt, t :: r, ok && !want)
def headKind : List Tok → Int
  | [] => 0
  | t :: _ => t.kind
def parseT : List Tok → Option Step
  | [] => none
  | t :: r => match shapeF t.text with
    | none => none
    | some sh => if t.kind ≠ 1 then none else
      let a := takeF sh.1 [3] true r
      let b := takeF sh.2.1 [1, 3] a.2.2 a.2.1
      let c := takeF sh.2.2 [2] b.2.2 b.2.1
      if c.2.2 = false ∨ headKind c.2.1 ≠ 0 then none else some ⟨t.text, if sh.2.2 = true then [c.1.num] else [], b.1.text, a.1.text⟩
def nameW (s : Bs) : Bs := if isName s = true then s else quote s
def printW (c : Step) (sh : Shape) : List Bs := c.word :: ((if sh.1 = true then [quote c.data] else []) ++ (if sh.2.1 = true then [nameW c.name] else []) ++ (if sh.2.2 = true then [P.digits (c.nums.headD 0)] else []))
def outF (c : Step) (sh : Shape) : Bs := Lib.join (printW c sh) [32]
def fits (c : Step) (sh : Shape) : Prop := (sh.1 = false → c.data = []) ∧ (sh.2.1 = false → c.name = []) ∧ c.nums.length = (if sh.2.2 = true then 1 else 0) ∧ c.data.length ≤ 4096 ∧ c.name.length ≤ 4096 ∧ (sh.2.2 = true → 0 ≤ c.nums.headD 0 ∧ c.nums.headD 0 ≤ 2147483647)
def Prints (c : Step) (s : Bs) : Prop := ∃ sh, shapeF c.word = some sh ∧ fits c sh ∧ s = outF c sh ∧ s.length ≤ 65536
theorem run_all {p : UInt8 → Bool} (w r : Bs) (hw : w.all p = true) (hr : ∀ c r', r = c :: r' → p c = false) : run p (w ++ r) = w.length := by
  unfold run
  induction w with
  | nil =>
    cases r with
    | nil => rfl
    | cons c r => simp [hr c r rfl]
  | cons a w ih =>
    simp only [List.all_cons, Bool.and_eq_true] at hw
    simp [hw.1, ih hw.2]
theorem run_eq_len {p : UInt8 → Bool} : ∀ {l : Bs}, run p l = l.length → l.all p = true
  | [], _ => rfl
  | a :: l, h => by
    unfold run at h
    cases ha : p a with
    | false => simp [List.takeWhile, ha] at h
    | true =>
      simp [List.takeWhile, ha] at h
      simp [ha, run_eq_len (p := p) (l := l) (by unfold run; exact h)]
def Gap (r : Bs) : Prop := r = [] ∨ ∃ r', r = 32 :: r'
theorem Gap.not {p : UInt8 → Bool} {r : Bs} (h : Gap r) (hp : p 32 = false) : ∀ c r', r = c :: r' → p c = false := by
  intro c r' e
  rcases h with rfl | ⟨r2, rfl⟩
  · cases e
  · injection e with e1 _
    rw [← e1]
    exact hp
theorem scan_nil {x : Option (List Tok)} (h : ScanR [] x) : x = some [] := by
  cases h
  rfl
theorem scan_gap {r : Bs} {x : Option (List Tok)} (h : ScanR (32 :: r) x) : ScanR r x := scan_skip h (by unfold blank; decide)
theorem scan_name {w r : Bs} {x : Option (List Tok)} (hn : isName w = true) (hr : Gap r) (h : ScanR (w ++ r) x) : ∃ y, ScanR r y ∧ x = y.map (⟨1, w, 0⟩ :: ·) := by
  cases w with
  | nil => cases hn
  | cons c w =>
    unfold isName at hn
    simp only [Bool.and_eq_true, decide_eq_true_eq] at hn
    obtain ⟨⟨h1, h2⟩, h3⟩ := hn
    have hrun : run nameC (c :: w ++ r) = (c :: w).length := run_all _ _ (run_eq_len h3) (hr.not (by decide))
    have hs := scan_word (c := c) (r := w ++ r) h (.inl h2)
    have hwf : wordF (c :: (w ++ r)) = some (⟨1, c :: w, 0⟩, (c :: w).length) := by
      unfold wordF
      rw [List.cons_append] at hrun
      simp only [h2, if_true, hrun, if_neg (show ¬ 32 < (c :: w).length by omega)]
      rw [← List.cons_append, List.take_left' rfl]
    rw [hwf] at hs
    obtain ⟨y, h4, h5⟩ := hs
    rw [← List.cons_append, List.drop_left' rfl] at h4
    exact ⟨y, h4, h5⟩
theorem scan_quote {v r : Bs} {x : Option (List Tok)} (hv : v.length ≤ 4096) (h : ScanR (quote v ++ r) x) : ∃ y, ScanR r y ∧ x = y.map (⟨3, v, 0⟩ :: ·) := by
  have e : quote v ++ r = 34 :: (quoteL v ++ 34 :: r) := by simp [quote]
  rw [e] at h
  have hs := scan_word h (.inr (.inr rfl))
  have hwf : wordF (34 :: (quoteL v ++ 34 :: r)) = some (⟨3, v, 0⟩, (quoteL v).length + 1 + 1) := by
    unfold wordF
    simp only [show letter 34 = false by decide, show digit 34 = false by decide, Bool.false_eq_true, if_false, text_quote, if_neg (show ¬ 4096 < v.length by omega)]
  rw [hwf] at hs
  obtain ⟨y, h4, h5⟩ := hs
  refine ⟨y, ?_, h5⟩
  have : (34 :: (quoteL v ++ 34 :: r)).drop ((quoteL v).length + 1 + 1) = r := by
    rw [List.drop_succ_cons, ← List.drop_drop, List.drop_left' rfl]
    rfl
  rwa [this] at h4
theorem scan_digits {n : Int} {r : Bs} {x : Option (List Tok)} (h1 : 0 ≤ n) (h2 : n ≤ 2147483647) (hr : Gap r) (h : ScanR (P.digits n ++ r) x) : ∃ y, ScanR r y ∧ x = y.map (⟨2, P.digits n, n⟩ :: ·) := by
  obtain ⟨hok, hv⟩ := P.numOk_digits n (by omega) (by omega)
  rw [decide_eq_true ⟨h1, h2⟩] at hok
  have hall := hok
  unfold P.numOk at hall
  simp only [Bool.and_eq_true, decide_eq_true_eq] at hall
  obtain ⟨⟨⟨hl, -⟩, hd⟩, -⟩ := hall
  have hrun : run digit (P.digits n ++ r) = (P.digits n).length := run_all _ _ hd (hr.not (by decide))
  cases hdn : P.digits n with
  | nil => rw [hdn] at hl; simp at hl
  | cons c w =>
    rw [hdn] at h hrun hd hok hv
    have hc : digit c = true := by
      simp only [List.all_cons, Bool.and_eq_true] at hd
      exact hd.1
    have hcl : letter c = false := by
      unfold digit at hc
      unfold letter
      simp at hc ⊢
      omega
    have hs := scan_word (c := c) (r := w ++ r) h (.inr (.inl hc))
    have hwf : wordF (c :: (w ++ r)) = some (⟨2, c :: w, n⟩, (c :: w).length) := by
      unfold wordF
      rw [List.cons_append] at hrun
      simp only [hcl, Bool.false_eq_true, if_false, hc, if_true, hrun]
      rw [← List.cons_append, List.take_left' rfl, hok, if_pos rfl]
      unfold P.numV
      rw [hok, if_pos rfl, hv h1]
    rw [hwf] at hs
    obtain ⟨y, h4, h5⟩ := hs
    rw [← List.cons_append, List.drop_left' rfl] at h4
    exact ⟨y, h4, h5⟩
theorem scan_nameW {v r : Bs} {x : Option (List Tok)} (hv : v.length ≤ 4096) (hr : Gap r) (h : ScanR (nameW v ++ r) x) : ∃ y k, (k = 1 ∨ k = 3) ∧ ScanR r y ∧ x = y.map (⟨k, v, 0⟩ :: ·) := by
  unfold nameW at h
  split at h
  · rename_i hn
    obtain ⟨y, h1, h2⟩ := scan_name hn hr h
    exact ⟨y, 1, .inl rfl, h1, h2⟩
  · obtain ⟨y, h1, h2⟩ := scan_quote hv h
    exact ⟨y, 3, .inr rfl, h1, h2⟩
theorem isName_word {l : Bs} {sh : Shape} (h : shapeF l = some sh) : isName l = true := by
  obtain ⟨⟨h1, h2, h3⟩, -⟩ := shape_word h
  cases l with
  | nil => exact absurd rfl h1
  | cons c r =>
    unfold isName
    have ha : (c :: r).all nameC = true := by
      rw [List.all_eq_true] at h2 ⊢
      intro a ha
      unfold nameC
      simp [h2 a ha]
    have := run_all (p := nameC) (c :: r) [] ha (fun c r' e => by cases e)
    rw [List.append_nil] at this
    simp only [Bool.and_eq_true, decide_eq_true_eq]
    exact ⟨⟨by omega, by simp only [List.all_cons, Bool.and_eq_true] at h2; exact h2.1⟩, this⟩
end Ad
end Go.Proofs.YtmabpnmnppfgaaaGreatDoor
namespace Go.Proofs.YtmabpnmnppfgaaaGreatDoor
set_option linter.unusedVariables false
open Go
namespace Ad
theorem join1 (a : Bs) : Lib.join [a] [32] = a := by simp [Lib.join, List.intercalate]
theorem join2 (a b : Bs) : Lib.join [a, b] [32] = a ++ 32 :: b := by simp [Lib.join, List.intercalate]
theorem join3 (a b c : Bs) : Lib.join [a, b, c] [32] = a ++ 32 :: (b ++ 32 :: c) := by simp [Lib.join, List.intercalate]
def endT : Tok := ⟨0, [], 0⟩
theorem back {c : Step} {s : Bs} (h : Prints c s) {x : Option (List Tok)} (hx : ScanR s x) : ∃ toks, x = some toks ∧ parseT (toks ++ [endT]) = some c := by
  obtain ⟨sh, h1, ⟨f1, f2, f3, f4, f5, f6⟩, rfl, hlen⟩ := h
  have hw := isName_word h1
  obtain ⟨word, nums, name, data⟩ := c
  simp only at h1 f1 f2 f3 f4 f5 f6 hw
  unfold outF printW at hx
  obtain ⟨-, hsh⟩ := shape_word h1
  rcases hsh with rfl | rfl | rfl | rfl
  · simp only [if_true, Bool.false_eq_true, if_false, List.append_nil] at hx f3
    rw [join2] at hx
    obtain ⟨y, h2, rfl⟩ := scan_name hw (.inr ⟨_, rfl⟩) hx
    have h3 := scan_gap h2
    rw [← List.append_nil (quote data)] at h3
    obtain ⟨z, h4, rfl⟩ := scan_quote f4 h3
    rw [scan_nil h4]
    refine ⟨_, rfl, ?_⟩
    have hn := f2 rfl
    subst hn
    have hl : nums = [] := List.eq_nil_of_length_eq_zero f3
    subst hl
    simp [parseT, h1, takeF, headKind, endT, zt]
  · simp only [Bool.false_eq_true, if_false, List.append_nil] at hx f3
    rw [join1, ← List.append_nil word] at hx
    obtain ⟨y, h2, rfl⟩ := scan_name hw (.inl rfl) hx
    rw [scan_nil h2]
    refine ⟨_, rfl, ?_⟩
    have hn := f2 rfl
    subst hn
    have hd := f1 rfl
    subst hd
    have hl : nums = [] := List.eq_nil_of_length_eq_zero f3
    subst hl
    simp [parseT, h1, takeF, headKind, endT, zt]
  · simp only [if_true, Bool.false_eq_true, if_false, List.append_nil, List.nil_append] at hx f3
    rw [join2] at hx
    obtain ⟨y, h2, rfl⟩ := scan_name hw (.inr ⟨_, rfl⟩) hx
    have h3 := scan_gap h2
    rw [← List.append_nil (nameW name)] at h3
    obtain ⟨z, k, hk, h4, rfl⟩ := scan_nameW f5 (.inl rfl) h3
    rw [scan_nil h4]
    refine ⟨_, rfl, ?_⟩
    have hd := f1 rfl
    subst hd
    have hl : nums = [] := List.eq_nil_of_length_eq_zero f3
    subst hl
    rcases hk with rfl | rfl <;> simp [parseT, h1, takeF, headKind, endT, zt]
  · simp only [if_true, Bool.false_eq_true, if_false, List.nil_append, List.singleton_append] at hx f3
    rw [join3] at hx
    obtain ⟨y, h2, rfl⟩ := scan_name hw (.inr ⟨_, rfl⟩) hx
    have h3 := scan_gap h2
    obtain ⟨z, k, hk, h4, rfl⟩ := scan_nameW f5 (.inr ⟨_, rfl⟩) h3
    have h5 := scan_gap h4
    obtain ⟨n, hl⟩ : ∃ n, nums = [n] := List.length_eq_one_iff.1 f3
    subst hl
    have h6 := f6 rfl
    simp only [List.headD_cons] at h5 h6
    rw [← List.append_nil (P.digits n)] at h5
    obtain ⟨u, h7, rfl⟩ := scan_digits h6.1 h6.2 (.inl rfl) h5
    rw [scan_nil h7]
    refine ⟨_, rfl, ?_⟩
    have hd := f1 rfl
    subst hd
    rcases hk with rfl | rfl <;> simp [parseT, h1, takeF, headKind, endT, zt]
def GoodT (t : Tok) : Prop := (t.kind = 1 → t.text.length ≤ 4096) ∧ (t.kind = 3 → t.text.length ≤ 4096) ∧ (t.kind = 2 → 0 ≤ t.num ∧ t.num ≤ 2147483647)
theorem wordF_good {s : Bs} {t : Tok} {n : Nat} (h : wordF s = some (t, n)) : GoodT t := by
  unfold wordF at h
  split at h
  · cases h
  · rename_i c r
    split at h
    · split at h
      · cases h
      · simp only [Option.some.injEq, Prod.mk.injEq] at h
        obtain ⟨rfl, -⟩ := h
        refine ⟨fun _ => ?_, (fun e => by cases e), (fun e => by cases e)⟩
        simp only [List.length_take]
        omega
    · split at h
      · split at h
        · rename_i hok
          simp only [Option.some.injEq, Prod.mk.injEq] at h
          obtain ⟨rfl, -⟩ := h
          refine ⟨(fun e => by cases e), (fun e => by cases e), fun _ => ?_⟩
          have h2 := hok
          unfold P.numOk at h2
          simp only [Bool.and_eq_true, decide_eq_true_eq] at h2
          simp only
          unfold P.numV
          rw [if_pos hok]
          omega
        · cases h
      · cases ht : text r with
        | none => rw [ht] at h; simp at h
        | some y =>
          obtain ⟨v, m⟩ := y
          rw [ht] at h
          simp only at h
          split at h
          · cases h
          · simp only [Option.some.injEq, Prod.mk.injEq] at h
            obtain ⟨rfl, -⟩ := h
            exact ⟨(fun e => by cases e), fun _ => by simp only; omega, (fun e => by cases e)⟩
theorem wordR_good {s : Bs} {t : Tok} {n : Nat} (h : WordR s (some (t, n))) : GoodT t := by
  unfold WordR at h
  split at h
  · exact h.elim
  · split at h
    · exact wordF_good h.symm
    · rcases h with h | ⟨t', n', -, -, h3, h4⟩
      · cases h
      · simp only [Option.some.injEq, Prod.mk.injEq] at h4
        obtain ⟨rfl, -⟩ := h4
        exact ⟨fun e => by omega, fun e => by omega, fun e => by omega⟩
theorem scan_good {s : Bs} {x : Option (List Tok)} (h : ScanR s x) : ∀ toks, x = some toks → ∀ t ∈ toks, GoodT t := by
  induction h with
  | nil => intro toks e; cases e; simp
  | skip _ _ _ _ _ ih => exact ih
  | remark _ _ _ _ _ _ ih => exact ih
  | bad _ _ _ _ _ => intro toks e; cases e
  | word c r t n x _ _ hw _ ih =>
    intro toks e
    cases x with
    | none => cases e
    | some l =>
      simp only [Option.map_some, Option.some.injEq] at e
      subst e
      intro u hu
      rcases List.mem_cons.1 hu with rfl | hu
      · exact wordR_good hw
      · exact ih l rfl u hu
theorem end_good : GoodT endT := ⟨(fun e => by cases e), (fun e => by cases e), (fun e => by cases e)⟩
theorem take_good (want : Bool) (ks : List Int) (ok : Bool) {l : List Tok} (hl : ∀ t ∈ l, GoodT t) : (∀ t ∈ (takeF want ks ok l).2.1, GoodT t) ∧ ((takeF want ks ok l).2.2 = true → ok = true ∧ (want = true → (takeF want ks ok l).1.kind ∈ ks ∧ GoodT (takeF want ks ok l).1)) ∧ (want = false → (takeF want ks ok l).1 = zt) := by
  cases l with
  | nil => exact ⟨by simp [takeF], by simp [takeF], by simp [takeF]⟩
  | cons t r =>
    by_cases h : want = true ∧ t.kind ∈ ks
    · have e : takeF want ks ok (t :: r) = (t, r, ok) := if_pos h
      rw [e]
      exact ⟨fun u hu => hl u (List.mem_cons_of_mem _ hu), fun e => ⟨e, fun _ => ⟨h.2, hl t List.mem_cons_self⟩⟩, fun e => by rw [h.1] at e; cases e⟩
    · have e : takeF want ks ok (t :: r) = (zt, t :: r, ok && !want) := if_neg h
      rw [e]
      refine ⟨hl, fun e => ?_, fun _ => rfl⟩
      simp only [Bool.and_eq_true, Bool.not_eq_true'] at e
      exact ⟨e.1, fun hw => by rw [hw] at e; cases e.2⟩
theorem quote_len (v : Bs) : (quote v).length ≤ 4 * v.length + 2 := by
  have := quoteL_len v
  simp [quote]
  omega
theorem nameW_len (v : Bs) : (nameW v).length ≤ 4 * v.length + 2 := by
  unfold nameW
  split
  · omega
  · exact quote_len v
theorem digits_len (n : Int) : (P.digits n).length ≤ 21 := by
  unfold P.digits
  have h : ∀ f n, (P.digitsN f n).length ≤ f := by
    intro f
    induction f with
    | zero => intro n; simp [P.digitsN]
    | succ f ih =>
      intro n
      unfold P.digitsN
      have := ih (n / 10)
      rw [List.length_append]
      split
      · simp
      · simp; omega
  have := h 20 n.natAbs
  rw [List.length_append]
  split <;> simp <;> omega
theorem fit {l : List Tok} {c : Step} (hg : ∀ t ∈ l, GoodT t) (h : parseT l = some c) : ∃ s, Prints c s := by
  cases l with
  | nil => cases h
  | cons t r =>
    cases hsh : shapeF t.text with
    | none => simp only [parseT, hsh] at h; cases h
    | some sh =>
      simp only [parseT, hsh] at h
      by_cases hk : t.kind ≠ 1
      · rw [if_pos hk] at h; cases h
      · rw [if_neg hk] at h
        have hr : ∀ t ∈ r, GoodT t := fun u hu => hg u (List.mem_cons_of_mem _ hu)
        obtain ⟨a1, a2, a3⟩ := take_good sh.1 [3] true hr
        generalize hA : takeF sh.1 [3] true r = A at *
        obtain ⟨b1, b2, b3⟩ := take_good sh.2.1 [1, 3] A.2.2 a1
        generalize hB : takeF sh.2.1 [1, 3] A.2.2 A.2.1 = B at *
        obtain ⟨c1, c2, c3⟩ := take_good sh.2.2 [2] B.2.2 b1
        generalize hC : takeF sh.2.2 [2] B.2.2 B.2.1 = C at *
        by_cases hok : C.2.2 = false ∨ headKind C.2.1 ≠ 0
        · rw [if_pos hok] at h; cases h
        · rw [if_neg hok] at h
          have hCt : C.2.2 = true := by
            cases hc : C.2.2 with
            | true => rfl
            | false => exact absurd (.inl hc) hok
          obtain ⟨hBt, hC2⟩ := c2 hCt
          obtain ⟨hAt, hB2⟩ := b2 hBt
          obtain ⟨-, hA2⟩ := a2 hAt
          simp only [Option.some.injEq] at h
          subst h
          obtain ⟨⟨w1, w2, w3⟩, w4⟩ := shape_word hsh
          have hdl : A.1.text.length ≤ 4096 := by
            cases hs : sh.1 with
            | false => rw [a3 hs]; simp [zt]
            | true =>
              obtain ⟨e1, e2⟩ := hA2 hs
              simp only [List.mem_singleton] at e1
              exact e2.2.1 e1
          have hnl : B.1.text.length ≤ 4096 := by
            cases hs : sh.2.1 with
            | false => rw [b3 hs]; simp [zt]
            | true =>
              obtain ⟨e1, e2⟩ := hB2 hs
              simp only [List.mem_cons, List.mem_nil_iff, or_false] at e1
              rcases e1 with e1 | e1
              · exact e2.1 e1
              · exact e2.2.1 e1
          have hft : fits ⟨t.text, if sh.2.2 = true then [C.1.num] else [], B.1.text, A.1.text⟩ sh := by
            refine ⟨fun e => by simp only; rw [a3 e]; rfl, fun e => by simp only; rw [b3 e]; rfl, by simp only; split <;> rfl, hdl, hnl, fun e => ?_⟩
            simp only [e, if_true, List.headD_cons]
            obtain ⟨e1, e2⟩ := hC2 e
            simp only [List.mem_singleton] at e1
            exact e2.2.2 e1
          refine ⟨_, sh, hsh, hft, rfl, ?_⟩
          have l1 := quote_len A.1.text
          have l2 := nameW_len B.1.text
          have l3 := digits_len C.1.num
          unfold outF printW
          rcases w4 with rfl | rfl | rfl | rfl
          · simp only [if_true, Bool.false_eq_true, if_false, List.append_nil, join2]
            simp
            omega
          · simp only [Bool.false_eq_true, if_false, List.append_nil, join1]
            omega
          · simp only [if_true, Bool.false_eq_true, if_false, List.append_nil, List.nil_append, join2]
            simp
            omega
          · simp only [if_true, Bool.false_eq_true, if_false, List.nil_append, List.singleton_append, join3, List.headD_cons]
            simp
            omega
end Ad
end Go.Proofs.YtmabpnmnppfgaaaGreatDoor
namespace Go.Proofs.YtmabpnmnppfgaaaGreatDoor
set_option linter.unusedVariables false
open Go Go.RowKit Go.BigFrame
section
variable {α : Type} {enc : α → Value} {b : Nat} {l : List (ByteArray × α)} {P : Program} {t kt et : TypeId}
theorem wpList_insert_L {w : World} {ops : Array Oper} {rest : List Oper} {o : Oper} {a : Act} {Q : Exit → Act → World → Prop}
    (hg : o.guard = none) (m x v : Operand) (hop : o.op = Op.insert t m x v) (h : MapL enc w b l) (hu : P.underlying t = some (.map kt et)) (hd : P.underlying kt = some .string) (key : ByteArray) (e : α)
    (hm : a.eval m = .map (some b)) (hx : a.eval x = .string key) (hv : a.eval v = enc e)
    (hK : ∀ w', MapL enc w' b (Dk.put l key e) → w.grownBy w' (some b) → wpList P ops Q rest (a.put o.dst undef) w') : wpList P ops Q (o :: rest) a w := by
  refine wpList_plain hg fun K' hK' => ?_
  obtain ⟨w', hrun, r1, r2⟩ := h.store hu hd key e
  unfold Oper.wp
  simp [execOp, hop, hm, hx, hv, hrun, Result.andThen]
  exact hK' _ _ (hK w' r1 r2)
end
def encS (s : Ad.Shape) : Value := .agg #[.bool s.1, .bool s.2.1, .bool s.2.2]
set_option maxRecDepth 100000 in
set_option maxHeartbeats 1600000 in
theorem shapes_any (w : World) :
    Calls Tryz.prog 22 #[] w fun e w' => ∃ b, e = .returned (.map (some b)) ∧ MapL encS w' b Ad.shapeL ∧ w.heap.size ≤ b ∧ b < w'.heap.size ∧ Below w.heap.size w w' := by
  have HM := Lib.hid (MapL.made (enc := encS) w)
  have HB := Lib.hid ((Below.refl _ w).alloc (Nat.le_refl _) (.map #[] 0))
  have HZ := Lib.hid (show w.heap.size < (w.alloc (.map #[] 0)).heap.size by simp)
  have hmm := @run_makeMap Tryz.prog
  go_enter Tryz.func22, Tryz.ntmps22
  go_wp2_with ((refine wpList_insert_L (e := (_, _, _)) (by rfl) _ _ _ (by rfl) HM.out Tryz.underlying77 Tryz.underlying9 _ (by rfl) (by rfl) (by rfl) ?_; intro w1 hm1 hg1; have HB := Lib.hid (HB.out.trans (below_grown hg1 (Nat.le_of_lt HZ.out) (Nat.le_refl _))); have HZ := Lib.hid (Nat.lt_of_lt_of_le HZ.out hg1.size); have HM := Lib.hid hm1; clear hm1 hg1))
  go_ret
  have hl := HM.out
  exact ⟨_, rfl, Eq.mp (congrArg (MapL encS _ _) (by rfl)) hl, Nat.le_refl _, HZ.out, HB.out⟩
end Go.Proofs.YtmabpnmnppfgaaaGreatDoor
namespace Go.Proofs.YtmabpnmnppfgaaaGreatDoor
set_option linter.unusedVariables false
open Go Go.RowKit Go.BigFrame
theorem LAt.tail_ {w : World} {S : Nat → Prop} {gb o m : Nat} {t : Ad.Tok} {r : List Ad.Tok} (h : LAt tokE w S (some ⟨gb, o, none⟩) m (t :: r)) : LAt tokE w S (some ⟨gb, o + 11, none⟩) (m - 1) r := by
  obtain ⟨hl, h⟩ := h
  simp at hl
  refine ⟨by omega, fun hm => ?_⟩
  obtain ⟨ad, e, hS, hx⟩ := h (by omega)
  cases e
  refine ⟨_, rfl, hS, fun j x hj => ?_⟩
  obtain ⟨cs, h1, h2⟩ := hx (j + 1) x (by simpa using hj)
  refine ⟨cs, h1, fun i u hu => ?_⟩
  have h3 := h2 i u hu
  rw [Addr.add_mid] at h3 ⊢
  rw [← h3]
  congr 2
  show o + 11 + (j * 11 + i) = o + ((j + 1) * 11 + i)
  omega
theorem LAt.head_ {w : World} {S : Nat → Prop} {gb o m : Nat} {t : Ad.Tok} {r : List Ad.Tok} (h : LAt tokE w S (some ⟨gb, o, none⟩) m (t :: r)) : ∃ cs, tokE.R w S cs t ∧ w.rangeAt gb o cs := by
  obtain ⟨hl, h⟩ := h
  simp at hl
  obtain ⟨ad, e, hS, hx⟩ := h (by omega)
  cases e
  obtain ⟨cs, h1, h2⟩ := hx 0 t rfl
  refine ⟨cs, h1, fun i u hu => ?_⟩
  have h3 := h2 i u hu
  rw [Addr.add_mid] at h3
  rw [← h3]
  congr 2
  show o + i = o + (0 * 11 + i)
  omega
def TokC (t : Ad.Tok) (cs : List Value) : Prop := ∃ p l c, PathC p ∧ cs = [.int .i64 t.kind, .string ⟨t.text.toArray⟩, .int .i64 t.num] ++ p ++ [.int .i64 l, .int .i64 c]
def ListIn (w : World) (S : Nat → Prop) (w' : World) (gl gb : Nat) (l : List Ad.Tok) : Prop := ∃ o m c, Blk w' gl 61 #[.slice (some ⟨gb, o, none⟩) m c] ∧ LAt tokE w S (some ⟨gb, o, none⟩) m l ∧ m ≤ c ∧ c ≤ maxLen ∧ m ≤ 1048576
set_option maxRecDepth 100000 in
set_option maxHeartbeats 1600000 in
theorem take_any (w : World) (want ok : Bool) (ks : List Int) (gk gl gi gb o m c : Nat) (l : List Ad.Tok) (S : Nat → Prop)
    (hk : Blk w gk 3 (ks.map (Value.int .i64)).toArray) (hks : ks.length ≤ 2) (hl : Blk w gl 61 #[.slice (some ⟨gb, o, none⟩) m c]) (hi : Blk w gi 4 #[.bool ok])
    (hat : LAt tokE w S (some ⟨gb, o, none⟩) m l) (hm : 1 ≤ m) (hmc : m ≤ c) (hcm : c ≤ maxLen) (hm2 : m ≤ 1048576) (hli : gl ≠ gi) :
    Calls Tryz.prog 23 #[.bool want, .slice (some ⟨gk, 0, none⟩) ks.length ks.length, .pointer (some ⟨gl, 0, none⟩), .pointer (some ⟨gi, 0, none⟩)] w fun e w' =>
      (∃ cs, TokC (Ad.takeF want ks ok l).1 cs ∧ e = .returned (.agg cs.toArray)) ∧ ListIn w S w' gl gb (Ad.takeF want ks ok l).2.1 ∧ Blk w' gi 4 #[.bool (Ad.takeF want ks ok l).2.2] ∧ Chg gl gi w w' := by
  obtain ⟨t, r, rfl⟩ : ∃ t r, l = t :: r := by
    cases l with
    | nil => have := hat.1; simp at this; omega
    | cons t r => exact ⟨t, r, rfl⟩
  obtain ⟨cs, ⟨p, cl, cc, ⟨pt, pa, pb, pc, pd, pe, rfl⟩, rfl⟩, hrg⟩ := hat.head_
  have HAT := Lib.hid hat
  have HRG := Lib.hid (fun o' => World.rangeAt_alloc hrg o')
  have hl1 := hl.cell 0
  have hb1 := hl.alloc (.cells zw 71)
  have hb2 := hi.alloc (.cells zw 71)
  have hb3 := hk.alloc (.cells zw 71)
  have hlc := hb1.cell
  clear hat hrg
  go_enter Tryz.func23, Tryz.ntmps23
  go_wp2_with (refine wpList_load_mid rfl 71 (.tmp 11) rfl gb o rfl _ _ (HRG.out _) Tryz.underlying71 rfl (by kernel_rfl) ?_)
  obtain ⟨w2, hw2⟩ : ∃ w2, w2 = (w.alloc (.cells zw 71)).alloc (.cells #[.int .i64 t.kind, .string ⟨t.text.toArray⟩, .int .i64 t.num, .string pt, .int .i64 pa, .int .i64 pb, .int .i64 pc, .int .i64 pd, .int .i64 pe, .int .i64 cl, .int .i64 cc] 71) := ⟨_, rfl⟩
  rw [← hw2]
  have K6 : Blk w2 w.heap.size 71 zw := hw2 ▸ (Blk.new w 71 zw).alloc _
  have K7 : Blk w2 (w.heap.size + 1) 71 #[.int .i64 t.kind, .string ⟨t.text.toArray⟩, .int .i64 t.num, .string pt, .int .i64 pa, .int .i64 pb, .int .i64 pc, .int .i64 pd, .int .i64 pe, .int .i64 cl, .int .i64 cc] := by
    have := Blk.new (w.alloc (.cells zw 71)) 71 #[.int .i64 t.kind, .string ⟨t.text.toArray⟩, .int .i64 t.num, .string pt, .int .i64 pa, .int .i64 pb, .int .i64 pc, .int .i64 pd, .int .i64 pe, .int .i64 cl, .int .i64 cc]
    rw [hw2]
    simpa using this
  have L2 : Blk w2 gl 61 #[.slice (some ⟨gb, o, none⟩) m c] := hw2 ▸ hb1.alloc _
  have I2 : Blk w2 gi 4 #[.bool ok] := hw2 ▸ hb2.alloc _
  have N2 : Blk w2 gk 3 (ks.map (Value.int .i64)).toArray := hw2 ▸ hb3.alloc _
  have C2 := Lib.hid (show Chg gl gi w w2 from hw2 ▸ ((Chg.refl gl gi w).alloc _).alloc _)
  have hgl := hl.lt
  have hgi := hi.lt
  have hgk := hk.lt
  clear hw2 hb1 hb2 hb3 hlc hl1 hl hi hk HRG
  have d7 := K7.cell
  have d2 := L2.cell
  have e2 := I2.cell
  have f2 := L2.frozen
  have f3 := I2.frozen
  have HN := Lib.hid N2
  have HK6 := Lib.hid K6
  have HK7 := Lib.hid K7
  have HL2 := Lib.hid L2
  have HI2 := Lib.hid I2
  clear N2 K6 K7 L2 I2
  go_loopw [15] (fun x wr => ∃ j : Nat, x = .int .i64 j ∧ j ≤ ks.length ∧ wr = w2 ∧ ∀ i k, i < j → ks[i]? = some k → ¬ (want = true ∧ t.kind = k)) (fun x _ => ks.length - (intOf x).toNat)
  case atStart => exact ⟨0, rfl, by omega, rfl, fun i k hi => absurd hi (by omega)⟩
  case round =>
    obtain ⟨j, rfl, hj, rfl, hno⟩ := hrel
    have HNO := Lib.hid hno
    clear hno
    by_cases hlt : j < ks.length
    · have hkj : ks[j]? = some ks[j] := List.getElem?_eq_getElem hlt
      have hcj : ∀ (q : Nat), wr.cell? (Addr.add ⟨gk, q, none⟩ j) = wr.cell? ⟨gk, q + j, none⟩ := fun q => by rw [Addr.add_mid]
      have hcj2 : wr.cell? ⟨gk, j, none⟩ = some (.int .i64 ks[j]) := by rw [HN.out.cell]; simp [hkj]
      have HKJ := Lib.hid hkj
      clear hkj
      generalize ks[j] = k at *
      have HMK := Lib.hid (show k ∈ ks from List.mem_of_getElem? HKJ.out)
      cases want with
      | false =>
        go_wp2_with fail
        go_roundw
        case rel => exact ⟨j + 1, by go_num, by omega, by trivial, fun i k' hi hk' => by simp⟩
        case measure => simp [intOf]; omega
      | true =>
        by_cases hkk : t.kind = k
        · have q1 : (t.kind == k) = true := by rw [hkk]; simp
          have q2 := Lib.hid (show Ad.takeF true ks ok (t :: r) = (t, r, ok) from if_pos ⟨rfl, hkk ▸ HMK.out⟩)
          clear hkk
          by_cases hc1 : c = 1
          all_goals
            go_wp2_with (first
              | (refine wpList_load_row rfl 71 (.tmp 7) rfl (w.heap.size + 1) rfl 71 _ (0, 0) _ (HK7.out.far (p := ⟨gl, 0, none⟩) (by simp; omega) _) Tryz.underlying71 rfl (by kernel_rfl) ?_)
              | (refine wpList_store_blk (cs' := #[.int .i64 t.kind, .string ⟨t.text.toArray⟩, .int .i64 t.num, .string pt, .int .i64 pa, .int .i64 pb, .int .i64 pc, .int .i64 pd, .int .i64 pe, .int .i64 cl, .int .i64 cc]) rfl 71 (.tmp 6) (.tmp 28) rfl w.heap.size rfl rfl (HK6.out.far (p := ⟨gl, 0, none⟩) (by simp; omega) _) rfl (by kernel_rfl) (by simp [Value.oneCell']) ?_; intro w4 hk4 hg4; have K4 := Lib.hid hk4; have G4 := Lib.hid hg4; clear hk4 hg4))
            (try simp only [Exit.inBlock, Exit.then])
            refine bodyPost_ret (results_cell_row rfl _ _ w.heap.size 71 _ (0, 0) _ rfl K4.out Tryz.underlying71 rfl (by kernel_rfl)) rfl ?_
            have hL4 := (HL2.out.set_ 0 _).grown G4.out (by simp; omega)
            have hI4 := (HI2.out.far (p := ⟨gl, 0, none⟩) (Ne.symm hli) _).grown G4.out (by simp; omega)
            have hC4 := (C2.out.set_ (p := ⟨gl, 0, none⟩) (.inl rfl) _).grown G4.out (by rintro x hx; cases hx; exact .inr (.inr (Nat.le_refl _)))
            rw [q2.out]
            first
            | exact ⟨⟨_, ⟨_, cl, cc, ⟨pt, pa, pb, pc, pd, pe, rfl⟩, rfl⟩, rfl⟩, ⟨o + 11, m - 1, c - 1, hL4, HAT.out.tail_, by omega, by omega, by omega⟩, hI4, hC4⟩
            | exact ⟨⟨_, ⟨_, cl, cc, ⟨pt, pa, pb, pc, pd, pe, rfl⟩, rfl⟩, rfl⟩, ⟨o, m - 1, 0, hL4, (by
                have h1 := HAT.out.1
                simp at h1
                obtain rfl : r = [] := List.eq_nil_of_length_eq_zero (by omega)
                obtain rfl : m = 1 := by omega
                exact LAt.nil), by omega, by omega, by omega⟩, hI4, hC4⟩
        · have q1 : (t.kind == k) = false := by rw [beq_eq_false_iff_ne]; exact hkk
          have HKK := Lib.hid hkk
          clear hkk
          go_wp2_with fail
          go_roundw
          case rel =>
            refine ⟨j + 1, by go_num, by omega, by trivial, fun i k' hi hk' hh => ?_⟩
            rcases Nat.lt_or_ge i j with h | h
            · exact HNO.out i k' h hk' ⟨rfl, hh.2⟩
            · obtain rfl : i = j := by omega
              rw [HKJ.out] at hk'
              cases hk'
              exact HKK.out hh.2
          case measure => simp [intOf]; omega
    · obtain rfl : j = ks.length := by omega
      have q2 := Lib.hid (show Ad.takeF want ks ok (t :: r) = (Ad.zt, t :: r, ok && !want) from if_neg fun h => by
        obtain ⟨i, hi⟩ := List.getElem?_of_mem h.2
        exact HNO.out i _ (List.getElem?_eq_some_iff.1 hi).1 hi ⟨h.1, rfl⟩)
      obtain ⟨ok2, hok2⟩ : ∃ b, b = (ok && !want) := ⟨_, rfl⟩
      have Q3 := Lib.hid hok2
      cases want <;> cases ok
      all_goals
        clear hok2
        go_wp2_with (first
          | (refine wpList_store_blk (cs' := zw) rfl 71 (.tmp 6) (.tmp 35) rfl w.heap.size rfl rfl (HK6.out.far (p := ⟨gi, 0, none⟩) (by simp; omega) _) rfl (by kernel_rfl) (by simp [Value.oneCell']) ?_; intro w4 hk4 hg4; have K4 := Lib.hid hk4; have G4 := Lib.hid hg4; clear hk4 hg4))
        (try simp only [Exit.inBlock, Exit.then])
        refine bodyPost_ret (results_cell_row rfl _ _ w.heap.size 71 _ (0, 0) _ rfl K4.out Tryz.underlying71 rfl (by kernel_rfl)) rfl ?_
        have hL4 := (HL2.out.far (p := ⟨gi, 0, none⟩) hli (.bool ok2)).grown (w' := w4) (by rw [Q3.out]; exact G4.out) (by simp; omega)
        have hI4 := (HI2.out.set_ 0 (.bool ok2)).grown (w' := w4) (by rw [Q3.out]; exact G4.out) (by simp; omega)
        have hC4 := (C2.out.set_ (p := ⟨gi, 0, none⟩) (.inr (.inl rfl)) (.bool ok2)).grown (w'' := w4) (by rw [Q3.out]; exact G4.out) (by rintro x hx; cases hx; exact .inr (.inr (Nat.le_refl _)))
        rw [q2.out, ← Q3.out]
        exact ⟨⟨_, ⟨_, 0, 0, ⟨_, _, _, _, _, _, rfl⟩, rfl⟩, rfl⟩, ⟨o, m, c, hL4, HAT.out, by omega, by omega, by omega⟩, hI4, hC4⟩
end Go.Proofs.YtmabpnmnppfgaaaGreatDoor
namespace Go.Proofs.YtmabpnmnppfgaaaGreatDoor
set_option linter.unusedVariables false
open Go Go.RowKit Go.BigFrame
theorem take_at (wS w : World) (want ok : Bool) (ks : List Int) (gk gl gi gb o m c : Nat) (l : List Ad.Tok) (S : Nat → Prop) (BW : Below wS.heap.size wS w) (hS : ∀ b, S b → b < wS.heap.size)
    (hk : Blk w gk 3 (ks.map (Value.int .i64)).toArray) (hks : ks.length ≤ 2) (hl : Blk w gl 61 #[.slice (some ⟨gb, o, none⟩) m c]) (hi : Blk w gi 4 #[.bool ok])
    (hat : LAt tokE wS S (some ⟨gb, o, none⟩) m l) (hm : l ≠ []) (hmc : m ≤ c) (hcm : c ≤ maxLen) (hm2 : m ≤ 1048576) (hli : gl ≠ gi) (hgl : wS.heap.size ≤ gl) (hgi : wS.heap.size ≤ gi) :
    Calls Tryz.prog 23 #[.bool want, .slice (some ⟨gk, 0, none⟩) ks.length ks.length, .pointer (some ⟨gl, 0, none⟩), .pointer (some ⟨gi, 0, none⟩)] w fun e w' =>
      (∃ (pt : ByteArray) (pa pb pc pd pe cl cc : Int), e = .returned (.agg #[.int .i64 (Ad.takeF want ks ok l).1.kind, .string ⟨(Ad.takeF want ks ok l).1.text.toArray⟩, .int .i64 (Ad.takeF want ks ok l).1.num, .string pt, .int .i64 pa, .int .i64 pb, .int .i64 pc, .int .i64 pd, .int .i64 pe, .int .i64 cl, .int .i64 cc])) ∧
      (∃ o m c, Blk w' gl 61 #[.slice (some ⟨gb, o, none⟩) m c] ∧ LAt tokE wS S (some ⟨gb, o, none⟩) m (Ad.takeF want ks ok l).2.1 ∧ m ≤ c ∧ c ≤ maxLen ∧ m ≤ 1048576) ∧ Blk w' gi 4 #[.bool (Ad.takeF want ks ok l).2.2] ∧ Below wS.heap.size wS w' ∧ Chg gl gi w w' := by
  have hm1 : 1 ≤ m := by
    have := hat.1
    cases l with
    | nil => exact absurd rfl hm
    | cons => simp at this; omega
  refine (take_any w want ok ks gk gl gi gb o m c l S hk hks hl hi (hat.below BW hS) hm1 hmc hcm hm2 hli).mono ?_
  rintro e w' ⟨⟨cs, ⟨p, cl, cc, ⟨pt, pa, pb, pc, pd, pe, rfl⟩, rfl⟩, rfl⟩, ⟨o2, m2, c2, h1, h2, h3⟩, h4, h5⟩
  refine ⟨⟨pt, pa, pb, pc, pd, pe, cl, cc, rfl⟩, ⟨o2, m2, c2, h1, h2.keep (fun _ h => h) (fun q hq => (BW.cell (hS _ hq)).symm), h3⟩, h4, ?_, h5⟩
  exact ⟨h5.os.trans BW.os, h5.tape.trans BW.tape, h5.output.trans BW.output, Nat.le_trans BW.size h5.size, fun b hb => (h5.block b (Nat.lt_of_lt_of_le hb BW.size) (by omega) (by omega)).trans (BW.block b hb)⟩
namespace Ad
def Ends (l : List Tok) : Prop := ∃ p, l = p ++ [endT]
theorem Ends.ne {l : List Tok} (h : Ends l) : l ≠ [] := by
  obtain ⟨p, rfl⟩ := h
  simp
theorem Ends.take {l : List Tok} (h : Ends l) (want : Bool) (ks : List Int) (ok : Bool) (hk : (0 : Int) ∉ ks) : Ends (takeF want ks ok l).2.1 := by
  obtain ⟨p, rfl⟩ := h
  cases p with
  | nil =>
    show Ends (takeF want ks ok [endT]).2.1
    have e : takeF want ks ok [endT] = (zt, [endT], ok && !want) := if_neg fun h => hk h.2
    rw [e]
    exact ⟨[], rfl⟩
  | cons t p =>
    rw [List.cons_append]
    by_cases h : want = true ∧ t.kind ∈ ks
    · have e : takeF want ks ok (t :: (p ++ [endT])) = (t, p ++ [endT], ok) := if_pos h
      rw [e]
      exact ⟨p, rfl⟩
    · have e : takeF want ks ok (t :: (p ++ [endT])) = (zt, t :: (p ++ [endT]), ok && !want) := if_neg h
      rw [e]
      exact ⟨t :: p, rfl⟩
end Ad
theorem results_cell_tmp1 {fn : Func} {p u : Tmp} {ty : TypeId} (h : fn.results = #[.cell p ty, .tmp u]) (tmps : Array Value) (P : Program) (w : World) :
    (results fn tmps).run P w = ((asAddr (tmps.getD p undef)).run P w).andThen fun a w₁ => ((loadVar ty a).run P w₁).andThen fun x w₂ => .ok (.tuple #[x, tmps.getD u undef]) w₂ := by
  simp only [results, h]
  simp [Sem.run_bind, Result.andThen]
abbrev zs : Array Value := #[.string ⟨#[]⟩, .slice none 0 0, .string ⟨#[]⟩, .string ⟨#[]⟩]
set_option maxRecDepth 100000 in
theorem step_res {W : World} {tmps : Array Value} {g : Nat} {v3 : Value} {cs : Array Value} (hW : Blk W g 24 cs) (hl : cs.size = 4) (h2 : tmps.getD 2 undef = .pointer (some ⟨g, 0, none⟩)) (h3 : tmps.getD 3 undef = v3) :
    (results Tryz.f6 tmps).run Tryz.prog W = .ok (.tuple #[.agg cs, v3]) W := by
  rw [results_cell_tmp1 rfl, h2, h3]
  have hi : (Tryz.prog.info? 24).map (·.size) = some cs.size := by rw [hl]; kernel_rfl
  have h := run_loadVar_row (P := Tryz.prog) W g 24 24 cs (0, 0) _ hW Tryz.underlying24 rfl hi
  simp only [asAddr, Sem.run_pure, Result.andThen_ok, h]
theorem word_text_field (a b c d e f i j k l m : Value) (W : World) : (Instr.field 71 (.agg #[a, b, c, d, e, f, i, j, k, l, m]) 1).run Tryz.prog W = .ok b W := by kernel_rfl
theorem shape_look {w : World} {b : Nat} (h : MapL encS w b Ad.shapeL) (x : ByteArray) : (Instr.lookup 77 (.map (some b)) (.string x) true).run Tryz.prog w = .ok (.tuple #[encS ((Dk.get Ad.shapeL x).getD (false, false, false)), .bool (Dk.get Ad.shapeL x).isSome]) w := by
  have hz : (zeroValue 75).run Tryz.prog w = .ok (encS (false, false, false)) w := Tryz.zeroValue75 w
  rw [h.look Tryz.underlying77 Tryz.underlying9 hz x true]
  cases Dk.get Ad.shapeL x <;> rfl
end Go.Proofs.YtmabpnmnppfgaaaGreatDoor
namespace Go.Proofs.YtmabpnmnppfgaaaGreatDoor
set_option linter.unusedVariables false
open Go Go.RowKit Go.BigFrame
theorem text_ne {s : ByteArray} (h : s.size ≠ 0) : s.toList.isEmpty = false := by
  rw [ByteArray.toList_eq]
  cases hs : s.data.toList with
  | nil =>
    have := congrArg List.length hs
    simp at this
    rw [this] at h
    exact absurd rfl h
  | cons => rfl
theorem text_empty {s : ByteArray} (h : s.size = 0) : s = ⟨#[]⟩ := by
  have : s.data = #[] := Array.eq_empty_of_size_eq_zero h
  rw [← this]
set_option maxRecDepth 100000 in
set_option maxHeartbeats 1600000 in
theorem isName_any (s : ByteArray) (w : World) (hs : s.size ≤ 1000000) :
    Calls Tryz.prog 26 #[.string s] w fun e w' => e = .returned (.bool (Ad.isName s.data.toList)) ∧ w' = w := by
  by_cases h0 : s.size = 0
  · obtain rfl := text_empty h0
    go_enter Tryz.func26, Tryz.ntmps26
    go_wp2
    go_ret
    exact ⟨rfl, rfl⟩
  · obtain ⟨r, hd⟩ : ∃ r, s.data.toList = s[0] :: r := ⟨s.data.toList.drop 1, by
      have := List.drop_eq_getElem_cons (l := s.data.toList) (i := 0) (by simpa using Nat.pos_of_ne_zero h0)
      rw [List.drop_zero] at this
      exact this⟩
    have hne := text_ne h0
    have hlen : s.data.toList.length = s.size := by simp
    have HN := Lib.hid (show Ad.isName s.data.toList = (decide (s.size ≤ 32) && Ad.letter s[0] && decide (Ad.run Ad.nameC s.data.toList = s.size)) by
      have e : ∀ l : Ad.Bs, l = s[0] :: r → Ad.isName l = (decide (l.length ≤ 32) && Ad.letter s[0] && decide (Ad.run Ad.nameC l = l.length)) := fun l h => by
        subst h
        rfl
      rw [e _ hd, hlen])
    have hi1 : ∀ W : World, (Instr.index 9 (.string s) (.int .i64 0)).run Tryz.prog W = .ok (.int .u8 (s[0].toNat : Int)) W := fun W => idx_atu s 0 (by omega) rfl W
    have K1 := Lib.hid (fun W => letter_any s[0] W)
    have K2 := Lib.hid (fun W => runName_any s W hs)
    have hle : Ad.run Ad.nameC s.data.toList ≤ s.size := by
      have := Ad.run_le Ad.nameC s.data.toList
      rwa [hlen] at this
    have hc := s[0].toNat_lt
    generalize Ad.run Ad.nameC s.data.toList = n at *
    rw [HN.out]
    clear hd HN
    generalize s[0] = c at *
    by_cases h32 : s.size ≤ 32
    · cases hl : Ad.letter c with
      | false =>
        rw [hl] at K1
        go_enter Tryz.func26, Tryz.ntmps26
        go_wp2_with fail
        refine (K1.out _).mono ?_
        rintro e w1 ⟨rfl, rfl⟩
        go_wp2_with fail
        go_ret
        exact ⟨by simp, rfl⟩
      | true =>
        rw [hl] at K1
        go_enter Tryz.func26, Tryz.ntmps26
        go_wp2_with fail
        refine (K1.out _).mono ?_
        rintro e w1 ⟨rfl, rfl⟩
        go_wp2_with fail
        refine (K2.out _).mono ?_
        rintro e w1 ⟨rfl, rfl⟩
        go_wp2_with fail
        go_ret
        refine ⟨?_, rfl⟩
        by_cases hn : n = s.size
        · subst hn; simp [h32]
        · simp [h32, hn]
          omega
    · go_enter Tryz.func26, Tryz.ntmps26
      go_wp2_with fail
      go_ret
      exact ⟨by simp [], rfl⟩
end Go.Proofs.YtmabpnmnppfgaaaGreatDoor
