/- Two blocks that a region makes, each written later on. Plain lemmas. -/
import Derived.Test.YtjbhlojfmcldjabGen
import Derived.Test.YtjbhlojfmcldjabFail1
namespace Go.Proofs.Ytjbhlojfmcldjab
set_option linter.unusedVariables false
open Go Go.RowKit
/-- Operation a and b make blocks of type t, whose cells are z; sa and sb write x and y into them. -/
structure TwoI (W0 : World) (t : TypeId) (z x y : Array Value) (a b sa sb : Nat) (L : Nat → Bool) (vs : Nat → Value) (w : World) : Prop where
  below : Below W0.heap.size W0 w
  first : L a = true → ∃ g, vs a = .pointer (some ⟨g, 0, none⟩) ∧ W0.heap.size ≤ g ∧ Blk w g t (if L sa = true then x else z)
  second : L b = true → ∃ g, vs b = .pointer (some ⟨g, 0, none⟩) ∧ W0.heap.size ≤ g ∧ Blk w g t (if L sb = true then y else z)
  apart : L a = true → L b = true → vs a ≠ vs b
  wa : L sa = true → L a = true
  wb : L sb = true → L b = true
section
variable {W0 w w' : World} {t : TypeId} {z x y : Array Value} {a b sa sb : Nat} {L : Nat → Bool} {vs : Nat → Value}
theorem TwoI.start (W0 : World) : TwoI W0 t z x y a b sa sb (fun _ => false) vs { W0 with drawn := W0.drawn + 1 } :=
  ⟨⟨rfl, rfl, rfl, Nat.le_refl _, fun _ _ => rfl⟩, (fun h => by cases h), (fun h => by cases h), (fun h => by cases h), (fun h => by cases h), (fun h => by cases h)⟩
theorem TwoI.pure (h : TwoI W0 t z x y a b sa sb L vs w) {k : Nat} {v : Value} (h1 : k ≠ a) (h2 : k ≠ b) (h3 : k ≠ sa) (h4 : k ≠ sb) : TwoI W0 t z x y a b sa sb (upd L k) (updv vs k v) w := by
  have ea : upd L k a = L a := by simp [upd, Ne.symm h1]
  have eb : upd L k b = L b := by simp [upd, Ne.symm h2]
  have ec : upd L k sa = L sa := by simp [upd, Ne.symm h3]
  have ed : upd L k sb = L sb := by simp [upd, Ne.symm h4]
  have va : updv vs k v a = vs a := by simp [updv, Ne.symm h1]
  have vb : updv vs k v b = vs b := by simp [updv, Ne.symm h2]
  refine ⟨h.below, ?_, ?_, ?_, ?_, ?_⟩
  · rw [ea, va, ec]; exact h.first
  · rw [eb, vb, ed]; exact h.second
  · rw [ea, eb, va, vb]; exact h.apart
  · rw [ec, ea]; exact h.wa
  · rw [ed, eb]; exact h.wb
theorem TwoI.makeA (h : TwoI W0 t z x y a b sa sb L vs w) (hL : L a = false) (hab : a ≠ b) (hsa : sa ≠ a) (hsb : sb ≠ a) : TwoI W0 t z x y a b sa sb (upd L a) (updv vs a (.pointer (some ⟨w.heap.size, 0, none⟩))) (w.alloc (.cells z t)) := by
  have h1 : L sa = false := by
    cases hc : L sa with
    | false => rfl
    | true => rw [h.wa hc] at hL; cases hL
  refine ⟨h.below.alloc h.below.size _, fun _ => ⟨w.heap.size, by simp [updv], h.below.size, ?_⟩, fun hb => ?_, fun _ hb => ?_, fun _ => by simp [upd], fun hb => ?_⟩
  · have : upd L a sa = false := by simp [upd, hsa, h1]
    rw [this]
    exact Blk.new w t z
  · have hb' : L b = true := by simpa [upd, Ne.symm hab] using hb
    obtain ⟨g, e1, e2, e3⟩ := h.second hb'
    refine ⟨g, by simp [updv, Ne.symm hab, e1], e2, ?_⟩
    have : upd L a sb = L sb := by simp [upd, hsb]
    rw [this]
    exact e3.alloc _
  · have hb' : L b = true := by simpa [upd, Ne.symm hab] using hb
    obtain ⟨g, e1, e2, e3⟩ := h.second hb'
    have hlt := e3.lt
    simp only [updv, if_true, Ne.symm hab, if_false, e1]
    intro e
    cases e
    omega
  · have hb' : L sb = true := by simpa [upd, hsb] using hb
    have := h.wb hb'
    simp [upd, Ne.symm hab, this]
theorem TwoI.swap (h : TwoI W0 t z x y a b sa sb L vs w) : TwoI W0 t z y x b a sb sa L vs w := ⟨h.below, h.second, h.first, fun h1 h2 e => h.apart h2 h1 e.symm, h.wb, h.wa⟩
theorem TwoI.makeB (h : TwoI W0 t z x y a b sa sb L vs w) (hL : L b = false) (hab : a ≠ b) (hsa : sa ≠ b) (hsb : sb ≠ b) : TwoI W0 t z x y a b sa sb (upd L b) (updv vs b (.pointer (some ⟨w.heap.size, 0, none⟩))) (w.alloc (.cells z t)) :=
  (h.swap.makeA hL (Ne.symm hab) hsb hsa).swap
theorem TwoI.putA (h : TwoI W0 t z x y a b sa sb L vs w) (hL : L a = true) {g : Nat} (hg : vs a = .pointer (some ⟨g, 0, none⟩)) (hb : Blk w' g t x) (hgr : w.grownBy w' (some g)) (hge : W0.heap.size ≤ g) (v : Value) (hsa : sa ≠ a) (hsb : sa ≠ b) (hss : sa ≠ sb) :
    TwoI W0 t z x y a b sa sb (upd L sa) (updv vs sa v) w' := by
  have ea : upd L sa a = L a := by simp [upd, Ne.symm hsa]
  have eb : upd L sa b = L b := by simp [upd, Ne.symm hsb]
  have es : upd L sa sb = L sb := by simp [upd, Ne.symm hss]
  have va : updv vs sa v a = vs a := by simp [updv, Ne.symm hsa]
  have vb : updv vs sa v b = vs b := by simp [updv, Ne.symm hsb]
  refine ⟨h.below.grown hgr h.below.size (fun k hk => by cases hk; exact hge), fun _ => ⟨g, by rw [va, hg], hge, ?_⟩, fun h2 => ?_, fun _ h2 => ?_, fun _ => by rw [ea, hL], fun h2 => ?_⟩
  · have : upd L sa sa = true := by simp [upd]
    rw [if_pos this]
    exact hb
  · rw [eb] at h2
    obtain ⟨g', e1, e2, e3⟩ := h.second h2
    refine ⟨g', by rw [vb, e1], e2, ?_⟩
    rw [es]
    refine e3.grownAt hgr (fun e => h.apart hL h2 ?_)
    rw [hg, e1, e]
  · rw [eb] at h2
    rw [va, vb]
    exact h.apart hL h2
  · rw [es] at h2
    rw [eb]
    exact h.wb h2
theorem TwoI.putB (h : TwoI W0 t z x y a b sa sb L vs w) (hL : L b = true) {g : Nat} (hg : vs b = .pointer (some ⟨g, 0, none⟩)) (hb : Blk w' g t y) (hgr : w.grownBy w' (some g)) (hge : W0.heap.size ≤ g) (v : Value) (hsb : sb ≠ b) (hsa : sb ≠ a) (hss : sb ≠ sa) :
    TwoI W0 t z x y a b sa sb (upd L sb) (updv vs sb v) w' := (h.swap.putA hL hg hb hgr hge v hsb hsa hss).swap
end
theorem Blk.put6 {w : World} {g0 : Nat} {t : TypeId} {a b c d e f a' b' c' d' e' f' : Value} (hk : Blk w g0 t #[a', b', c', d', e', f']) :
    Blk ((((((w.setCell ⟨g0, 0, none⟩ a).setCell ⟨g0, 1, none⟩ b).setCell ⟨g0, 2, none⟩ c).setCell ⟨g0, 3, none⟩ d).setCell ⟨g0, 4, none⟩ e).setCell ⟨g0, 5, none⟩ f) g0 t #[a, b, c, d, e, f] := by
  have := (((((hk.set_ 0 a).set_ 1 b).set_ 2 c).set_ 3 d).set_ 4 e).set_ 5 f
  simpa [World.setCells] using this
theorem grown_put6 (w : World) (g0 : Nat) (a b c d e f : Value) : w.grownBy ((((((w.setCell ⟨g0, 0, none⟩ a).setCell ⟨g0, 1, none⟩ b).setCell ⟨g0, 2, none⟩ c).setCell ⟨g0, 3, none⟩ d).setCell ⟨g0, 4, none⟩ e).setCell ⟨g0, 5, none⟩ f) (some g0) :=
  (((((grown_set w g0 0 a).trans (grown_set _ g0 1 b)).trans (grown_set _ g0 2 c)).trans (grown_set _ g0 3 d)).trans (grown_set _ g0 4 e)).trans (grown_set _ g0 5 f)
end Go.Proofs.Ytjbhlojfmcldjab
