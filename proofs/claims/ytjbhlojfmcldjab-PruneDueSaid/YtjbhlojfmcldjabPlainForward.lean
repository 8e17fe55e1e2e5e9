/- When a row may stand where another one stood: the plain laws. No Go in sight. -/
import Derived.Test.YtjbhlojfmcldjabPlainPrune
namespace Go.Proofs.Ytjbhlojfmcldjab.P
set_option linter.unusedVariables false
theorem mayLeg_refl (x : Leg) : mayLeg x x = true := by simp [mayLeg]
theorem mayLegs_refl : ∀ l : List Leg, mayLegs l l = true
  | [] => rfl
  | x :: l => by simp [mayLegs, mayLeg_refl x, mayLegs_refl l]
theorem forward_refl (a : Head) (la : List Leg) : forward a a la la = true := by simp [forward, mayLegs_refl]
/-- Is there a leg that moved, and whose tries went down? -/
def downLeg (x z : Leg) : Bool := x.status != z.status && decide (z.tries < x.tries)
def down : List Leg → List Leg → Bool
  | x :: xs, z :: zs => downLeg x z || down xs zs
  | _, _ => false
theorem mayLeg_trans {x y z : Leg} (h1 : mayLeg x y = true) (h2 : mayLeg y z = true) (h3 : downLeg x z = false) : mayLeg x z = true := by
  simp only [mayLeg, downLeg, Bool.and_eq_true, Bool.or_eq_true, beq_iff_eq, decide_eq_true_eq, Bool.and_eq_false_iff, bne_eq_false_iff_eq, decide_eq_false_iff_not] at *
  obtain ⟨n1, h1⟩ := h1
  obtain ⟨n2, h2⟩ := h2
  refine ⟨n1.trans n2, ?_⟩
  omega
theorem mayLegs_trans : ∀ {a b c : List Leg}, mayLegs a b = true → mayLegs b c = true → down a c = false → mayLegs a c = true
  | [], [], [], _, _, _ => rfl
  | [], [], z :: c, _, h, _ => by cases h
  | [], y :: b, _, h, _, _ => by cases h
  | x :: a, [], _, h, _, _ => by cases h
  | x :: a, y :: b, [], _, h, _ => by cases h
  | x :: a, y :: b, z :: c, h1, h2, h3 => by
    simp only [mayLegs, down, Bool.and_eq_true, Bool.or_eq_false_iff] at *
    exact ⟨mayLeg_trans h1.1 h2.1 h3.1, mayLegs_trans h1.2 h2.2 h3.2⟩
theorem forward_trans {a b c : Head} {la lb lc : List Leg} (h1 : forward a b la lb = true) (h2 : forward b c lb lc = true) (h3 : a.state = 3 → down la lc = false) : forward a c la lc = true := by
  simp only [forward, Bool.and_eq_true, Bool.or_eq_true, beq_iff_eq, bne_iff_ne] at *
  obtain ⟨i1, r1, t1, w1, s1⟩ := h1
  obtain ⟨i2, r2, t2, w2, s2⟩ := h2
  refine ⟨i1.trans i2, r1.trans r2, t1.trans t2, w1.trans w2, ?_⟩
  rcases s1 with s1 | ⟨e1, s1⟩
  · exact Or.inl s1
  · rcases s2 with s2 | ⟨e2, s2⟩
    · exact Or.inl (e1.trans s2)
    · refine Or.inr ⟨e1.trans e2, ?_⟩
      by_cases h : a.state = 3
      · refine Or.inr (mayLegs_trans (s1.resolve_left (fun k => k h)) (s2.resolve_left (fun k => k (e1 ▸ h))) (h3 h))
      · exact Or.inl h
end Go.Proofs.Ytjbhlojfmcldjab.P
