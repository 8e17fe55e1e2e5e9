/-
  No cell of these rows narrows 'for every input' (looked for: loops, veiled, ifaces, maps, wideKeys, modest, calm, conditions, laid).
  DERIVED. THE GIVEN ROWS OF THIS SEAT. 7 by the template 'for every input the law returns true; each argument reads behind the call as it read before'; 0 by the template 'total and deterministic' (their statements: YtefebcibcmjbaaaTotals.lean).
  GIVEN WITH THE SEED: the statements are not yours to turn. If you find one false, say at which input.
  Laid BY PROGRAM, IN A SANDBOX (cutbox-rows.mjs): the forced cells as the released guide's own fill.sh prints them over the translation 1412c84755923b05… (all of the seat's roots in one cut). By AI agents, Wed Nov 11 2026. No macro, syntax, notation, axiom, sorry.
-/
import Derived.Test.YtefebcibcmjbaaaChecked
import GoSem.Claim
import GoSem.ClaimJoined
import GoSem.ClaimMapViews
import Derived.JoinedTies
import Derived.KernelRfl
namespace Go.Proofs.Ytefebcibcmjbaaa
/- THE CELL 'sum', in the pinned program and in every row, IS THE sha256 OF THE DUMP (.gsa) THAT YtefebcibcmjbaaaProg.lean LOADS. Nothing in Lean hashes anything: it is a label: what it is worth is what the hold of that sum in a sandbox is worth. -/
noncomputable def Try.pinned : Pinned := { name := "ytefebcibcmjbaaa", sum := "1412c84755923b056d09eabf3138e5cfd5e0663e07704a1f3ef6d357f4899883", checked := Try.checked }
namespace Rows
def none {H : Type} : Left H := { results := [], args := [] }

/-- 'caduceuslaw1.BitsChanged': WHATEVER THE INPUT: true; the input reads as it did. -/
def bitsChangedSpec : ChangeSpec := { name := "bitsChanged", fn := fun _ => fun
  | [d1, d2, d3] => { results := [.lit (.bool true)], args := [d1, d2, d3] }
  | _ => none }
def bitsChangedRow : OpenClaim := { program := "ytefebcibcmjbaaa", sum := "1412c84755923b056d09eabf3138e5cfd5e0663e07704a1f3ef6d357f4899883", func := "caduceus/caduceuslaw1.BitsChanged", spec := "bitsChanged", apart := false }
def BitsChangedSaid : Prop := bitsChangedRow.holds Try.pinned (OpenSpec.ofChange bitsChangedSpec)

/-- ITS FALSE NEIGHBOUR: 'it returns false'. Refute it at one input. -/
def bitsChangedWrong : ChangeSpec := { name := "bitsChanged", fn := fun _ => fun
  | [d1, d2, d3] => { results := [.lit (.bool false)], args := [d1, d2, d3] }
  | _ => none }
def BitsChangedWrongFalsely : Prop := bitsChangedRow.holds Try.pinned (OpenSpec.ofChange bitsChangedWrong)

/-- 'caduceuslaw1.BitsCounts': WHATEVER THE INPUT: true; the input reads as it did. -/
def bitsCountsSpec : ChangeSpec := { name := "bitsCounts", fn := fun _ => fun
  | [d1, d2, d3] => { results := [.lit (.bool true)], args := [d1, d2, d3] }
  | _ => none }
def bitsCountsRow : OpenClaim := { program := "ytefebcibcmjbaaa", sum := "1412c84755923b056d09eabf3138e5cfd5e0663e07704a1f3ef6d357f4899883", func := "caduceus/caduceuslaw1.BitsCounts", spec := "bitsCounts", apart := false }
def BitsCountsSaid : Prop := bitsCountsRow.holds Try.pinned (OpenSpec.ofChange bitsCountsSpec)

/-- ITS FALSE NEIGHBOUR: 'it returns false'. Refute it at one input. -/
def bitsCountsWrong : ChangeSpec := { name := "bitsCounts", fn := fun _ => fun
  | [d1, d2, d3] => { results := [.lit (.bool false)], args := [d1, d2, d3] }
  | _ => none }
def BitsCountsWrongFalsely : Prop := bitsCountsRow.holds Try.pinned (OpenSpec.ofChange bitsCountsWrong)

/-- 'caduceuslaw1.BitsRising': WHATEVER THE INPUT: true; the input reads as it did. -/
def bitsRisingSpec : ChangeSpec := { name := "bitsRising", fn := fun _ => fun
  | [d1, d2, d3] => { results := [.lit (.bool true)], args := [d1, d2, d3] }
  | _ => none }
def bitsRisingRow : OpenClaim := { program := "ytefebcibcmjbaaa", sum := "1412c84755923b056d09eabf3138e5cfd5e0663e07704a1f3ef6d357f4899883", func := "caduceus/caduceuslaw1.BitsRising", spec := "bitsRising", inPlace := ["internal/bytealg.abigen_runtime_cmpstring"], apart := false }
def BitsRisingSaid : Prop := bitsRisingRow.holds Try.pinned (OpenSpec.ofChange bitsRisingSpec)

/-- ITS FALSE NEIGHBOUR: 'it returns false'. Refute it at one input. -/
def bitsRisingWrong : ChangeSpec := { name := "bitsRising", fn := fun _ => fun
  | [d1, d2, d3] => { results := [.lit (.bool false)], args := [d1, d2, d3] }
  | _ => none }
def BitsRisingWrongFalsely : Prop := bitsRisingRow.holds Try.pinned (OpenSpec.ofChange bitsRisingWrong)

/-- 'caduceuslaw1.BitsOrder': WHATEVER THE INPUT: true; the input reads as it did. -/
def bitsOrderSpec : ChangeSpec := { name := "bitsOrder", fn := fun _ => fun
  | [d1, d2, d3] => { results := [.lit (.bool true)], args := [d1, d2, d3] }
  | _ => none }
def bitsOrderRow : OpenClaim := { program := "ytefebcibcmjbaaa", sum := "1412c84755923b056d09eabf3138e5cfd5e0663e07704a1f3ef6d357f4899883", func := "caduceus/caduceuslaw1.BitsOrder", spec := "bitsOrder", inPlace := ["internal/bytealg.abigen_runtime_cmpstring"], apart := false }
def BitsOrderSaid : Prop := bitsOrderRow.holds Try.pinned (OpenSpec.ofChange bitsOrderSpec)

/-- ITS FALSE NEIGHBOUR: 'it returns false'. Refute it at one input. -/
def bitsOrderWrong : ChangeSpec := { name := "bitsOrder", fn := fun _ => fun
  | [d1, d2, d3] => { results := [.lit (.bool false)], args := [d1, d2, d3] }
  | _ => none }
def BitsOrderWrongFalsely : Prop := bitsOrderRow.holds Try.pinned (OpenSpec.ofChange bitsOrderWrong)

/-- 'caduceuslaw1.BitsNumbers': WHATEVER THE INPUT: true; the input reads as it did. -/
def bitsNumbersSpec : ChangeSpec := { name := "bitsNumbers", fn := fun _ => fun
  | [d1, d2, d3, d4] => { results := [.lit (.bool true)], args := [d1, d2, d3, d4] }
  | _ => none }
def bitsNumbersRow : OpenClaim := { program := "ytefebcibcmjbaaa", sum := "1412c84755923b056d09eabf3138e5cfd5e0663e07704a1f3ef6d357f4899883", func := "caduceus/caduceuslaw1.BitsNumbers", spec := "bitsNumbers", apart := false }
def BitsNumbersSaid : Prop := bitsNumbersRow.holds Try.pinned (OpenSpec.ofChange bitsNumbersSpec)

/-- ITS FALSE NEIGHBOUR: 'it returns false'. Refute it at one input. -/
def bitsNumbersWrong : ChangeSpec := { name := "bitsNumbers", fn := fun _ => fun
  | [d1, d2, d3, d4] => { results := [.lit (.bool false)], args := [d1, d2, d3, d4] }
  | _ => none }
def BitsNumbersWrongFalsely : Prop := bitsNumbersRow.holds Try.pinned (OpenSpec.ofChange bitsNumbersWrong)

/-- 'caduceuslaw1.BitsBytes': WHATEVER THE INPUT: true; the input reads as it did. -/
def bitsBytesSpec : ChangeSpec := { name := "bitsBytes", fn := fun _ => fun
  | [d1, d2, d3, d4] => { results := [.lit (.bool true)], args := [d1, d2, d3, d4] }
  | _ => none }
def bitsBytesRow : OpenClaim := { program := "ytefebcibcmjbaaa", sum := "1412c84755923b056d09eabf3138e5cfd5e0663e07704a1f3ef6d357f4899883", func := "caduceus/caduceuslaw1.BitsBytes", spec := "bitsBytes", inPlace := ["internal/bytealg.abigen_runtime_cmpstring"], apart := false }
def BitsBytesSaid : Prop := bitsBytesRow.holds Try.pinned (OpenSpec.ofChange bitsBytesSpec)

/-- ITS FALSE NEIGHBOUR: 'it returns false'. Refute it at one input. -/
def bitsBytesWrong : ChangeSpec := { name := "bitsBytes", fn := fun _ => fun
  | [d1, d2, d3, d4] => { results := [.lit (.bool false)], args := [d1, d2, d3, d4] }
  | _ => none }
def BitsBytesWrongFalsely : Prop := bitsBytesRow.holds Try.pinned (OpenSpec.ofChange bitsBytesWrong)

/-- 'caduceuslaw1.BitsBack': WHATEVER THE INPUT: true; the input reads as it did. -/
def bitsBackSpec : ChangeSpec := { name := "bitsBack", fn := fun _ => fun
  | [d1, d2, d3] => { results := [.lit (.bool true)], args := [d1, d2, d3] }
  | _ => none }
def bitsBackRow : OpenClaim := { program := "ytefebcibcmjbaaa", sum := "1412c84755923b056d09eabf3138e5cfd5e0663e07704a1f3ef6d357f4899883", func := "caduceus/caduceuslaw1.BitsBack", spec := "bitsBack", apart := false }
def BitsBackSaid : Prop := bitsBackRow.holds Try.pinned (OpenSpec.ofChange bitsBackSpec)

/-- ITS FALSE NEIGHBOUR: 'it returns false'. Refute it at one input. -/
def bitsBackWrong : ChangeSpec := { name := "bitsBack", fn := fun _ => fun
  | [d1, d2, d3] => { results := [.lit (.bool false)], args := [d1, d2, d3] }
  | _ => none }
def BitsBackWrongFalsely : Prop := bitsBackRow.holds Try.pinned (OpenSpec.ofChange bitsBackWrong)

/- THE SECOND FORM. 'bulk': how many values and letters a reading holds, each counted each time it is reached (what is shared counts as often as it is met; a slice's spare places count too). A statement '..UptoSaid' is the law's where the arguments, and the package variables that the reading takes, are together of bulk at most 1048576: NARROWER than '..Said'. Prove '..Said' where nothing that the law and all that it calls make is longer than what came in: it says more and counts as full. Else prove '..UptoSaid'. A law counts once. -/
mutual
def uptoBulk {H : Type} : DataW H → Nat
  | .lit (.string bytes) => bytes.length + 1
  | .lit _ => 1
  | .nil => 1
  | .ptr d => uptoBulk d + 1
  | .slice elems spare => uptoBulkAll elems + uptoBulkAll spare + 1
  | .agg parts => uptoBulkAll parts + 1
  | .iface _ d => uptoBulk d + 1
  | .map entries => uptoBulkEntries entries + 1
  | .held _ => 1
def uptoBulkAll {H : Type} : List (DataW H) → Nat
  | [] => 0
  | d :: r => uptoBulk d + uptoBulkAll r
def uptoBulkEntries {H : Type} : List (Lit × DataW H) → Nat
  | [] => 0
  | x :: r => uptoBulkEntry x + uptoBulkEntries r
def uptoBulkEntry {H : Type} : Lit × DataW H → Nat
  | (.string bytes, d) => bytes.length + uptoBulk d + 1
  | (_, d) => uptoBulk d + 1
 end
def uptoSmall : (H : Type) → List (DataW H) → Bool := fun _ ds => decide (uptoBulkAll ds ≤ 1048576)
def OpenSpec.upto (s : _root_.Go.ChangeSpec) : _root_.Go.OpenSpec := { _root_.Go.OpenSpec.ofChange s with cond := some uptoSmall }

/-- 'caduceuslaw1.BitsChanged', WHERE WHAT IT READS IS OF BULK AT MOST 1048576: true; the input reads as it did. -/
def bitsChangedUptoRow : OpenClaim := { program := "ytefebcibcmjbaaa", sum := "1412c84755923b056d09eabf3138e5cfd5e0663e07704a1f3ef6d357f4899883", func := "caduceus/caduceuslaw1.BitsChanged", spec := "bitsChanged", apart := false, narrowed := true }
def BitsChangedUptoSaid : Prop := bitsChangedUptoRow.holds Try.pinned (OpenSpec.upto bitsChangedSpec)

/-- 'caduceuslaw1.BitsCounts', WHERE WHAT IT READS IS OF BULK AT MOST 1048576: true; the input reads as it did. -/
def bitsCountsUptoRow : OpenClaim := { program := "ytefebcibcmjbaaa", sum := "1412c84755923b056d09eabf3138e5cfd5e0663e07704a1f3ef6d357f4899883", func := "caduceus/caduceuslaw1.BitsCounts", spec := "bitsCounts", apart := false, narrowed := true }
def BitsCountsUptoSaid : Prop := bitsCountsUptoRow.holds Try.pinned (OpenSpec.upto bitsCountsSpec)

/-- 'caduceuslaw1.BitsRising', WHERE WHAT IT READS IS OF BULK AT MOST 1048576: true; the input reads as it did. -/
def bitsRisingUptoRow : OpenClaim := { program := "ytefebcibcmjbaaa", sum := "1412c84755923b056d09eabf3138e5cfd5e0663e07704a1f3ef6d357f4899883", func := "caduceus/caduceuslaw1.BitsRising", spec := "bitsRising", inPlace := ["internal/bytealg.abigen_runtime_cmpstring"], apart := false, narrowed := true }
def BitsRisingUptoSaid : Prop := bitsRisingUptoRow.holds Try.pinned (OpenSpec.upto bitsRisingSpec)

/-- 'caduceuslaw1.BitsOrder', WHERE WHAT IT READS IS OF BULK AT MOST 1048576: true; the input reads as it did. -/
def bitsOrderUptoRow : OpenClaim := { program := "ytefebcibcmjbaaa", sum := "1412c84755923b056d09eabf3138e5cfd5e0663e07704a1f3ef6d357f4899883", func := "caduceus/caduceuslaw1.BitsOrder", spec := "bitsOrder", inPlace := ["internal/bytealg.abigen_runtime_cmpstring"], apart := false, narrowed := true }
def BitsOrderUptoSaid : Prop := bitsOrderUptoRow.holds Try.pinned (OpenSpec.upto bitsOrderSpec)

/-- 'caduceuslaw1.BitsNumbers', WHERE WHAT IT READS IS OF BULK AT MOST 1048576: true; the input reads as it did. -/
def bitsNumbersUptoRow : OpenClaim := { program := "ytefebcibcmjbaaa", sum := "1412c84755923b056d09eabf3138e5cfd5e0663e07704a1f3ef6d357f4899883", func := "caduceus/caduceuslaw1.BitsNumbers", spec := "bitsNumbers", apart := false, narrowed := true }
def BitsNumbersUptoSaid : Prop := bitsNumbersUptoRow.holds Try.pinned (OpenSpec.upto bitsNumbersSpec)

/-- 'caduceuslaw1.BitsBytes', WHERE WHAT IT READS IS OF BULK AT MOST 1048576: true; the input reads as it did. -/
def bitsBytesUptoRow : OpenClaim := { program := "ytefebcibcmjbaaa", sum := "1412c84755923b056d09eabf3138e5cfd5e0663e07704a1f3ef6d357f4899883", func := "caduceus/caduceuslaw1.BitsBytes", spec := "bitsBytes", inPlace := ["internal/bytealg.abigen_runtime_cmpstring"], apart := false, narrowed := true }
def BitsBytesUptoSaid : Prop := bitsBytesUptoRow.holds Try.pinned (OpenSpec.upto bitsBytesSpec)

/-- 'caduceuslaw1.BitsBack', WHERE WHAT IT READS IS OF BULK AT MOST 1048576: true; the input reads as it did. -/
def bitsBackUptoRow : OpenClaim := { program := "ytefebcibcmjbaaa", sum := "1412c84755923b056d09eabf3138e5cfd5e0663e07704a1f3ef6d357f4899883", func := "caduceus/caduceuslaw1.BitsBack", spec := "bitsBack", apart := false, narrowed := true }
def BitsBackUptoSaid : Prop := bitsBackUptoRow.holds Try.pinned (OpenSpec.upto bitsBackSpec)

end Rows
end Go.Proofs.Ytefebcibcmjbaaa
