/- The first call of chapter 21's statements: it is alive. No conditions. -/
import Derived.Test.YtjbhlojfmcldjabPr13
namespace Go.Proofs.Ytjbhlojfmcldjab
set_option linter.unusedVariables false
open Go.RowKit Go.BigFrame
def nA : ByteArray := ⟨#[97]⟩
def nB : ByteArray := ⟨#[98]⟩
def nX : ByteArray := ⟨#[120]⟩
def pA : ByteArray := ⟨#[112]⟩
def lsA : List P.Leg := [⟨nA, 1, 0, 0, pA, ⟨#[]⟩⟩, ⟨nB, 1, 0, 0, pA, ⟨#[]⟩⟩, ⟨nX, 1, 0, 0, pA, ⟨#[]⟩⟩]
def lsB : List P.Leg := [⟨nA, 3, 1, 0, pA, ⟨#[]⟩⟩, ⟨nB, 1, 0, 0, pA, ⟨#[]⟩⟩, ⟨nX, 1, 0, 0, pA, ⟨#[]⟩⟩]
theorem lsA_eq : P.legsOf dsA [] pA = lsA := by kernel_rfl
theorem nextA_eq : P.next 3 dsA lsA = [nA, nX] := by kernel_rfl
theorem lsB_eq : P.turned P.sentLeg 3 dsA lsA nA ⟨#[]⟩ = lsB := by kernel_rfl
theorem nextB_eq : P.next 3 dsA lsB = [nB, nX] := by kernel_rfl
theorem doneB_eq : P.doneOf 3 dsA lsA lsB nA (-1) 5 = -1 := by kernel_rfl
theorem fwdA_eq : P.forward ⟨1, 0, 0, 3, -1, ⟨#[]⟩, 0⟩ ⟨1, 0, 0, 3, -1, ⟨#[]⟩, 0⟩ lsA lsA = true := by kernel_rfl
theorem chainA : ∀ d ∈ dsA, (Lit.int .i64 d.chain).wf = true := by
  intro d hd
  simp only [dsA, List.mem_cons, List.not_mem_nil, or_false] at hd
  rcases hd with rfl | rfl | rfl <;> decide
theorem statA : ∀ l ∈ lsA, (Lit.int .i64 l.status).wf = true := by
  intro d hd
  simp only [lsA, List.mem_cons, List.not_mem_nil, or_false] at hd
  rcases hd with rfl | rfl | rfl <;> decide
theorem triesA : ∀ l ∈ lsA, (Lit.int .i64 l.tries).wf = true := by
  intro d hd
  simp only [lsA, List.mem_cons, List.not_mem_nil, or_false] at hd
  rcases hd with rfl | rfl | rfl <;> decide
end Go.Proofs.Ytjbhlojfmcldjab
