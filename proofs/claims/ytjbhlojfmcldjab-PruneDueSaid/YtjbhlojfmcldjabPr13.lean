/- The first call of chapter 21's statements: it is alive. No conditions. -/
import Derived.Test.YtjbhlojfmcldjabPr12
namespace Go.Proofs.Ytjbhlojfmcldjab
set_option linter.unusedVariables false
open Go.RowKit Go.BigFrame
def dA : P.Dest := ⟨⟨#[97]⟩, 1, false, 0, ⟨#[]⟩, 0, 0, 0, ⟨#[]⟩⟩
def dB : P.Dest := ⟨⟨#[98]⟩, 1, false, 0, ⟨#[]⟩, 0, 0, 0, ⟨#[]⟩⟩
def dX : P.Dest := ⟨⟨#[120]⟩, 2, false, 0, ⟨#[]⟩, 0, 0, 0, ⟨#[]⟩⟩
def dsA : List P.Dest := [dA, dB, dX]
/-- The call hands back a channel of three destinations. -/
def GivesC (w : World) (x : Ending) (w' : World) : Prop := ∃ g, x = .returned (.agg #[.string ⟨#[97, 100, 116]⟩, .bool false, .int .i64 0, .string ⟨#[]⟩, .string ⟨#[]⟩, .string ⟨#[]⟩, .string ⟨#[]⟩, .slice (some ⟨g, 0, none⟩) 3 3, .int .i64 0]) ∧ DestsAt w' w'.heap.size (some ⟨g, 0, none⟩) 3 dsA ∧ w.heap.size ≤ g ∧ Below w.heap.size w w'
set_option maxRecDepth 100000 in
set_option maxHeartbeats 2000000 in
theorem channel_any (w : World) : Calls Try.prog 21 #[] w (GivesC w) := by
  go_enter Try.func21, Try.ntmps21
  go_wp2
  refine bodyPost_ret (v := .agg #[.string ⟨#[97, 100, 116]⟩, .bool false, .int .i64 0, .string ⟨#[]⟩, .string ⟨#[]⟩, .string ⟨#[]⟩, .string ⟨#[]⟩, .slice (some ⟨w.heap.size + 1, 0, none⟩) 3 3, .int .i64 0]) (by simp [results, Try.results21, go_sem]) rfl ⟨_, rfl, ?_, by omega, ?_⟩
  · refine (?_ : Reads _ _ 9 _ 3 _)
    refine ⟨rfl, fun _ => ⟨_, rfl, ?_, fun j u hu => ?_⟩⟩
    · simp only [World.alloc, Array.size_push]; omega
    · rw [Addr.add_lit, Nat.zero_add]
      generalize hw : w.alloc _ = w1
      have e : w.heap.size + 1 = w1.heap.size := by rw [← hw]; simp only [World.alloc, Array.size_push]
      rw [e, Blk.cell (Blk.new w1 _ _)]
      rw [← hu]
      exact Array.getElem?_toList.symm
  · exact ((Below.refl _ _).alloc (Nat.le_refl _) _).alloc (by simp only [World.alloc, Array.size_push]; omega) _
end Go.Proofs.Ytjbhlojfmcldjab
