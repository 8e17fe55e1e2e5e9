/- Plain functions of values written so that no sign stands in them: no Go in sight. -/
import Derived.Test.YtefebcibcmjbaabPlainDelim
import Derived.Test.YtefebcibcmjbaabPlainHex
namespace Go.Proofs.Ytefebcibcmjbaab.P
set_option linter.unusedVariables false
/-- The letter of a sign; 0: it is none. -/
def letter (f c r e s b : UInt8) : UInt8 := if b = f then 70 else if b = c then 83 else if b = s then 84 else if b = r then 82 else if b = e then 69 else 0
/-- The sign of a letter's text; 0: it is none. -/
def sign (f c r e s : UInt8) (w : List UInt8) : UInt8 := if w = [70] then f else if w = [83] then c else if w = [84] then s else if w = [82] then r else if w = [69] then e else 0
def hexU (n : Nat) : UInt8 := UInt8.ofNat (if n < 10 then 48 + n else 55 + n)
def escB (f c r e s b : UInt8) : List UInt8 := if letter f c r e s b ≠ 0 then [e, letter f c r e s b, e] else if b.toNat < 32 ∨ 126 < b.toNat then [e, 88, hexU (b.toNat / 16), hexU (b.toNat % 16), e] else [b]
def esc (f c r e s : UInt8) (l : List UInt8) : List UInt8 := l.flatMap (escB f c r e s)
def escS (f c r e s : UInt8) (l : List UInt8) : List UInt8 := if valid [f, c, r, e, s] = true then esc f c r e s l else []
/-- What stands between two escapes means. -/
def means (f c r e s : UInt8) (w : List UInt8) : Option (List UInt8) :=
  if sign f c r e s w ≠ 0 then some [sign f c r e s w] else match w with
    | 88 :: d => if d = [] then none else unhex d
    | _ => none
def cut (e : UInt8) : List UInt8 → Option (List UInt8 × List UInt8)
  | [] => none
  | b :: t => if b = e then some ([], t) else (cut e t).map fun p => (b :: p.1, p.2)
theorem cut_eq {e : UInt8} : ∀ {t w r : List UInt8}, cut e t = some (w, r) → t = w ++ e :: r ∧ e ∉ w
  | [], w, r, h => by cases h
  | b :: t, w, r, h => by
    unfold cut at h
    split at h
    · rename_i hb
      cases h
      simp [hb]
    · rename_i hb
      cases hc : cut e t with
      | none => rw [hc] at h; cases h
      | some p =>
        rw [hc] at h
        cases h
        obtain ⟨h1, h2⟩ := cut_eq (t := t) (w := p.1) (r := p.2) hc
        exact ⟨by rw [h1]; simp, by simp [h2, Ne.symm hb]⟩
theorem cut_mk {e : UInt8} : ∀ (w r : List UInt8), e ∉ w → cut e (w ++ e :: r) = some (w, r)
  | [], r, _ => by simp [cut]
  | b :: w, r, h => by
    simp at h
    have := cut_mk w r h.2
    simp [cut, this, Ne.symm h.1]
theorem cut_none {e : UInt8} : ∀ (t : List UInt8), e ∉ t → cut e t = none
  | [], _ => rfl
  | b :: t, h => by
    simp at h
    simp [cut, cut_none t h.2, Ne.symm h.1]
theorem cut_no {e : UInt8} : ∀ {t : List UInt8}, cut e t = none → e ∉ t
  | [], _ => by simp
  | b :: t, h => by
    unfold cut at h
    split at h
    · cases h
    · rename_i hb
      have := cut_no (t := t) (by simpa using h)
      simp [this, Ne.symm hb]
def read (f c r e s : UInt8) : List UInt8 → List UInt8
  | [] => []
  | b :: t => if b = e then
      match h : cut e t with
      | none => b :: read f c r e s t
      | some p => match means f c r e s p.1 with
        | none => b :: read f c r e s t
        | some v => v ++ read f c r e s p.2
    else b :: read f c r e s t
termination_by l => l.length
decreasing_by
  all_goals simp_wf
  all_goals try omega
  have := (cut_eq h).1
  have := congrArg List.length this
  simp at this
  omega
section
variable {f c r e s : UInt8}
theorem read_nil : read f c r e s [] = [] := by rw [read]
theorem read_plain {b : UInt8} (t : List UInt8) (h : b ≠ e) : read f c r e s (b :: t) = b :: read f c r e s t := by rw [read, if_neg h]
theorem read_open {t : List UInt8} (h : cut e t = none) : read f c r e s (e :: t) = e :: read f c r e s t := by
  rw [read, if_pos rfl]
  split
  · rfl
  · rename_i p hp; rw [h] at hp; cases hp
theorem read_none {t w u : List UInt8} (h : cut e t = some (w, u)) (hm : means f c r e s w = none) : read f c r e s (e :: t) = e :: read f c r e s t := by
  rw [read, if_pos rfl]
  split
  · rfl
  · rename_i p hp; rw [h] at hp; cases hp; simp only [hm]
theorem read_some {t w u v : List UInt8} (h : cut e t = some (w, u)) (hm : means f c r e s w = some v) : read f c r e s (e :: t) = v ++ read f c r e s u := by
  rw [read, if_pos rfl]
  split
  · rename_i hp; rw [h] at hp; cases hp
  · rename_i p hp; rw [h] at hp; cases hp; simp only [hm]
end
/-- What Valid says of signs. -/
structure Sound (f c r e s : UInt8) : Prop where
  mf : may f = true
  mc : may c = true
  mr : may r = true
  me : may e = true
  ms : may s = true
  fc : f ≠ c
  fr : f ≠ r
  fe : f ≠ e
  fs : f ≠ s
  cr : c ≠ r
  ce : c ≠ e
  cs : c ≠ s
  re : r ≠ e
  rs : r ≠ s
  es : e ≠ s
theorem sound_of {f c r e s : UInt8} (h : valid [f, c, r, e, s] = true) : Sound f c r e s := by
  have h := of_decide_eq_true h
  have h0 := h 0 (by omega)
  have h1 := h 1 (by omega)
  have h2 := h 2 (by omega)
  have h3 := h 3 (by omega)
  have h4 := h 4 (by omega)
  exact ⟨h0.1, h1.1, h2.1, h3.1, h4.1, h1.2 0 (by omega), h2.2 0 (by omega), h3.2 0 (by omega), h4.2 0 (by omega), h2.2 1 (by omega), h3.2 1 (by omega), h4.2 1 (by omega), h3.2 2 (by omega), h4.2 2 (by omega), h4.2 3 (by omega)⟩
theorem may_out {b : UInt8} (h : may b = true) : 33 ≤ b.toNat ∧ b.toNat ≤ 126 ∧ ¬ (97 ≤ b.toNat ∧ b.toNat ≤ 122) ∧ ¬ (65 ≤ b.toNat ∧ b.toNat ≤ 90) ∧ ¬ (48 ≤ b.toNat ∧ b.toNat ≤ 57) := of_decide_eq_true h
theorem may_ne {b x : UInt8} (h : may b = true) (hx : may x = false) : b ≠ x := fun e => by rw [e, hx] at h; cases h
theorem hexU_may : ∀ n, n < 16 → may (hexU n) = false := by decide
theorem nib_hexU : ∀ n, n < 16 → nib (hexU n) = n := by decide
theorem hexU_print : ∀ n, n < 16 → 32 ≤ (hexU n).toNat ∧ (hexU n).toNat ≤ 126 := by decide
theorem unhex_hexU (b : UInt8) : unhex [hexU (b.toNat / 16), hexU (b.toNat % 16)] = some [b] := by
  have hb := b.toNat_lt
  unfold unhex
  rw [nib_hexU _ (by omega), nib_hexU _ (by omega), if_neg (by omega)]
  simp only [unhex, Option.map_some, Int.toNat_natCast]
  rw [show 16 * (b.toNat / 16) + b.toNat % 16 = b.toNat from by omega]
  simp
theorem letter_zero {f c r e s b : UInt8} : letter f c r e s b = 0 ↔ b ≠ f ∧ b ≠ c ∧ b ≠ s ∧ b ≠ r ∧ b ≠ e := by
  unfold letter
  by_cases h1 : b = f
  · rw [if_pos h1]; exact ⟨fun h => absurd h (by decide), fun h => absurd h1 h.1⟩
  rw [if_neg h1]
  by_cases h2 : b = c
  · rw [if_pos h2]; exact ⟨fun h => absurd h (by decide), fun h => absurd h2 h.2.1⟩
  rw [if_neg h2]
  by_cases h3 : b = s
  · rw [if_pos h3]; exact ⟨fun h => absurd h (by decide), fun h => absurd h3 h.2.2.1⟩
  rw [if_neg h3]
  by_cases h4 : b = r
  · rw [if_pos h4]; exact ⟨fun h => absurd h (by decide), fun h => absurd h4 h.2.2.2.1⟩
  rw [if_neg h4]
  by_cases h5 : b = e
  · rw [if_pos h5]; exact ⟨fun h => absurd h (by decide), fun h => absurd h5 h.2.2.2.2⟩
  rw [if_neg h5]
  simp [h1, h2, h3, h4, h5]
theorem sign_ne {f c r e s : UInt8} (h : Sound f c r e s) : f ≠ 0 ∧ c ≠ 0 ∧ r ≠ 0 ∧ e ≠ 0 ∧ s ≠ 0 :=
  ⟨may_ne h.mf (by decide), may_ne h.mc (by decide), may_ne h.mr (by decide), may_ne h.me (by decide), may_ne h.ms (by decide)⟩
/-- A letter is no sign; it means the sign. -/
theorem letter_means {f c r e s b : UInt8} (h : Sound f c r e s) (hl : letter f c r e s b ≠ 0) : may (letter f c r e s b) = false ∧ 32 ≤ (letter f c r e s b).toNat ∧ (letter f c r e s b).toNat ≤ 126 ∧ means f c r e s [letter f c r e s b] = some [b] := by
  obtain ⟨n1, n2, n3, n4, n5⟩ := sign_ne h
  revert hl
  unfold letter
  split
  · rename_i hb; intro _; subst hb; exact ⟨by decide, by decide, by decide, by simp [means, sign, n1]⟩
  split
  · rename_i hb; intro _; subst hb; exact ⟨by decide, by decide, by decide, by simp [means, sign, n2]⟩
  split
  · rename_i hb; intro _; subst hb; exact ⟨by decide, by decide, by decide, by simp [means, sign, n5]⟩
  split
  · rename_i hb; intro _; subst hb; exact ⟨by decide, by decide, by decide, by simp [means, sign, n3]⟩
  split
  · rename_i hb; intro _; subst hb; exact ⟨by decide, by decide, by decide, by simp [means, sign, n4]⟩
  · intro hl; exact absurd rfl hl
theorem means_hex {f c r e s : UInt8} (b : UInt8) : means f c r e s [88, hexU (b.toNat / 16), hexU (b.toNat % 16)] = some [b] := by
  simp [means, sign, unhex_hexU]
theorem read_escB {f c r e s : UInt8} (h : Sound f c r e s) (b : UInt8) (t : List UInt8) : read f c r e s (escB f c r e s b ++ t) = b :: read f c r e s t := by
  have hb := b.toNat_lt
  unfold escB
  by_cases hl : letter f c r e s b = 0
  · rw [if_neg (by simpa using hl)]
    split
    · have h1 : e ∉ [88, hexU (b.toNat / 16), hexU (b.toNat % 16)] := by
        simp [may_ne h.me (show may 88 = false by decide), may_ne h.me (hexU_may _ (by omega : b.toNat / 16 < 16)), may_ne h.me (hexU_may _ (by omega : b.toNat % 16 < 16))]
      have := read_some (cut_mk _ t h1) (means_hex (f := f) (c := c) (r := r) (s := s) b)
      simpa using this
    · exact read_plain t (letter_zero.1 hl).2.2.2.2
  · rw [if_pos hl]
    obtain ⟨m1, _, _, m2⟩ := letter_means h hl
    have := read_some (cut_mk [letter f c r e s b] t (by simp [may_ne h.me m1])) m2
    simpa using this
theorem read_esc_append {f c r e s : UInt8} (h : Sound f c r e s) (t : List UInt8) : ∀ l : List UInt8, read f c r e s (esc f c r e s l ++ t) = l ++ read f c r e s t
  | [] => rfl
  | b :: l => by
    have e1 : esc f c r e s (b :: l) = escB f c r e s b ++ esc f c r e s l := rfl
    rw [e1, List.append_assoc, read_escB h, read_esc_append h t l]
    rfl
theorem read_esc {f c r e s : UInt8} (h : Sound f c r e s) (l : List UInt8) : read f c r e s (esc f c r e s l) = l := by
  have := read_esc_append h [] l
  simpa [read_nil] using this
theorem esc_append {f c r e s : UInt8} (a b : List UInt8) : esc f c r e s (a ++ b) = esc f c r e s a ++ esc f c r e s b := by simp [esc]
theorem read_no {f c r e s : UInt8} (u : List UInt8) : ∀ l : List UInt8, e ∉ l → read f c r e s (l ++ u) = l ++ read f c r e s u
  | [], _ => rfl
  | b :: l, h => by
    simp at h
    rw [List.cons_append, read_plain _ (Ne.symm h.1), read_no u l h.2]
    rfl
/-- The text that goes with the answer, whatever that is. -/
def meantS (f c r e s : UInt8) (w : List UInt8) : List UInt8 := if sign f c r e s w ≠ 0 then [sign f c r e s w] else match w with
  | 88 :: d => unhexS d
  | _ => unhexS w
theorem meantS_some {f c r e s : UInt8} {w v : List UInt8} (h : means f c r e s w = some v) : meantS f c r e s w = v := by
  unfold means at h
  unfold meantS
  split at h
  · rename_i hs; rw [if_pos hs]; cases h; rfl
  · rename_i hs
    rw [if_neg hs]
    split at h
    · split at h
      · cases h
      · simp [unhexS, h]
    · cases h
theorem unhex_ne {d x : List UInt8} (hd : d ≠ []) (h : unhex d = some x) : x ≠ [] := by
  match d, hd, h with
  | [_], _, h => cases h
  | a :: b :: r, _, h =>
    unfold unhex at h
    split at h
    · cases h
    · cases hu : unhex r with
      | none => rw [hu] at h; cases h
      | some z => rw [hu] at h; cases h; simp
/-- The reference's text that goes with the answer. -/
def meansS (f c r e s : UInt8) (w : List UInt8) : List UInt8 := if sign f c r e s w ≠ 0 then [sign f c r e s w] else if w.length < 3 ∨ w.getD 0 0 ≠ 88 then [] else unhexS (w.drop 1)
theorem meansS_some {f c r e s : UInt8} {w v : List UInt8} (h : means f c r e s w = some v) : meansS f c r e s w = v := by
  unfold means at h
  unfold meansS
  split at h
  · rename_i hs; rw [if_pos hs]; cases h; rfl
  · rename_i hs
    rw [if_neg hs]
    split at h
    · rename_i d
      split at h
      · cases h
      · rename_i hd
        match d, hd, h with
        | [_], _, h => cases h
        | a :: b :: r, _, h => rw [if_neg (by simp)]; simp [unhexS, h]
    · cases h
theorem means_x {f c r e s : UInt8} {d : List UInt8} (h : sign f c r e s (88 :: d) = 0) : means f c r e s (88 :: d) = (if d = [] then none else unhex d) ∧ meantS f c r e s (88 :: d) = unhexS d := by
  unfold means meantS
  rw [if_neg (show ¬ (sign f c r e s (88 :: d) ≠ 0) from fun k => k h), if_neg (show ¬ (sign f c r e s (88 :: d) ≠ 0) from fun k => k h)]
  exact ⟨rfl, rfl⟩
theorem means_no {f c r e s : UInt8} {w : List UInt8} (h : sign f c r e s w = 0) (hw : ∀ d, w ≠ 88 :: d) : means f c r e s w = none ∧ meantS f c r e s w = unhexS w := by
  unfold means meantS
  rw [if_neg (show ¬ (sign f c r e s w ≠ 0) from fun k => k h), if_neg (show ¬ (sign f c r e s w ≠ 0) from fun k => k h)]
  match w, hw with
  | [], _ => exact ⟨rfl, rfl⟩
  | b :: d, hw =>
    have hb : b ≠ 88 := fun e => hw d (by rw [e])
    constructor
    · split
      · rename_i heq; cases heq; exact absurd rfl hb
      · rfl
    · split
      · rename_i heq; cases heq; exact absurd rfl hb
      · rfl
end Go.Proofs.Ytefebcibcmjbaab.P
