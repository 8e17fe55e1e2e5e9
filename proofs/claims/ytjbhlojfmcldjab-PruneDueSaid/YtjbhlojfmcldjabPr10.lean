/- What prune.Forward returns: whether a row may stand where another one stood. -/
import Derived.Test.YtjbhlojfmcldjabPr9
namespace Go.Proofs.Ytjbhlojfmcldjab
set_option linter.unusedVariables false
open Go.RowKit Go.BigFrame
namespace P
def goB (x y : Int) : Bool := (x == 1 || x == 2) && (y == 2 || y == 3 || y == 4 || y == 0)
theorem goB_iff (x y : Int) : goB x y = true ↔ MayGo (.agg #[.int .i64 x, .int .i64 y]) := by
  unfold goB MayGo
  constructor
  · intro h
    simp at h
    exact ⟨x, y, h.1, by omega, rfl⟩
  · rintro ⟨x', y', hx, hy, e⟩
    cases e
    simp
    exact ⟨hx, by omega⟩
theorem mayLeg_eq (x y : Leg) : mayLeg x y = ((x.name.toList == y.name.toList) && (x.status == y.status || (goB x.status y.status && decide (x.tries ≤ y.tries)))) := by
  unfold mayLeg goB
  rw [ByteArray.toList_eq, ByteArray.toList_eq]
  cases (x.name.data.toList == y.name.data.toList) <;> cases (x.status == y.status) <;> cases (x.status == 1) <;> cases (x.status == 2) <;> cases (y.status == 2) <;> cases (y.status == 3) <;> cases (y.status == 4) <;> cases (y.status == 0) <;> rfl
end P
set_option maxRecDepth 100000 in
set_option maxHeartbeats 2000000 in
theorem fwd1_any (x y : P.Leg) (g b nn : Nat) (W : World) (hg : g < W.heap.size) (hc : W.cell? ⟨g, 0, none⟩ = some (.map (some b))) (hs : SetIs W 67 b nn MayGo) (hx : (Lit.int .i64 x.status).wf = true) (hy : (Lit.int .i64 y.status).wf = true) :
    Calls Try.prog 33 #[.agg #[.string x.name, .int .i64 x.status, .int .i64 x.tries, .int .i64 x.due, .string x.payload, .string x.reply], .agg #[.string y.name, .int .i64 y.status, .int .i64 y.tries, .int .i64 y.due, .string y.payload, .string y.reply], .pointer (some ⟨g, 0, none⟩)] W fun e w' => e = .returned (.bool (P.mayLeg x y)) ∧ Below W.heap.size W w' := by
  have hm := P.mayLeg_eq x y
  have hkey := key2 hx hy
  have hgo := P.goB_iff x.status y.status
  have S2 := Lib.hid ((hs.alloc (.cells #[.string x.name, .int .i64 x.status, .int .i64 x.tries, .int .i64 x.due, .string x.payload, .string x.reply] 40)).alloc (.cells #[.string y.name, .int .i64 y.status, .int .i64 y.tries, .int .i64 y.due, .string y.payload, .string y.reply] 40))
  have key : ((x.name.toList == y.name.toList) = false ∧ P.mayLeg x y = false) ∨ ((x.name.toList == y.name.toList) = true ∧ (x.status == y.status) = true ∧ P.mayLeg x y = true) ∨ ((x.name.toList == y.name.toList) = true ∧ (x.status == y.status) = false ∧ P.mayLeg x y = (P.goB x.status y.status && decide (x.tries ≤ y.tries))) := by
    rw [hm]
    cases (x.name.toList == y.name.toList) <;> cases (x.status == y.status) <;> simp
  have HG := Lib.hid hgo
  generalize P.mayLeg x y = r at *
  generalize P.goB x.status y.status = q at *
  clear hm hs hgo
  rcases key with ⟨t1, ht⟩ | ⟨t1, t2, ht⟩ | ⟨t1, t2, ht⟩
  · have HR := Lib.hid ht
    have t1' : (x.name.toList != y.name.toList) = true := by rw [bne, t1]; rfl
    clear ht
    go_enter Try.func33, Try.ntmps33
    go_wp2
    go_ret
    rw [HR.out]
    exact ⟨rfl, ((Below.refl _ _).alloc (Nat.le_refl _) _).alloc (by simp) _⟩
  · have HR := Lib.hid ht
    have t1' : (x.name.toList != y.name.toList) = false := by rw [bne, t1]; rfl
    clear ht
    go_enter Try.func33, Try.ntmps33
    go_wp2_with (at_lookup; refine wpList_set_lookup rfl (.tmp 14) (.tmp 19) 64 67 rfl law2 Try.underlying64 b nn _ rfl S2.out _ _ rfl hkey q HG.out ?_)
    go_ret
    rw [HR.out]
    exact ⟨rfl, (((Below.refl _ _).alloc (Nat.le_refl _) _).alloc (by simp) _).alloc (by simp; omega) _⟩
  · have HR := Lib.hid ht
    have t1' : (x.name.toList != y.name.toList) = false := by rw [bne, t1]; rfl
    clear ht
    cases q
    all_goals
      go_enter Try.func33, Try.ntmps33
      go_wp2_with (at_lookup; refine wpList_set_lookup rfl (.tmp 14) (.tmp 19) 64 67 rfl law2 Try.underlying64 b nn _ rfl S2.out _ _ rfl hkey _ HG.out ?_)
      go_ret
      rw [HR.out]
      exact ⟨rfl, (((Below.refl _ _).alloc (Nat.le_refl _) _).alloc (by simp) _).alloc (by simp; omega) _⟩
end Go.Proofs.Ytjbhlojfmcldjab
