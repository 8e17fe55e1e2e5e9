/-
  No cell of these rows narrows 'for every input' (looked for: loops, veiled, ifaces, maps, wideKeys, modest, calm, conditions, laid).
  DERIVED. THE GIVEN ROWS OF THIS SEAT. 7 by the template 'for every input the law returns true; each argument reads behind the call as it read before'; 0 by the template 'total and deterministic' (their statements: YtefebcibcmjbaabTotals.lean).
  GIVEN WITH THE SEED: the statements are not yours to turn. If you find one false, say at which input.
  Laid BY PROGRAM, IN A SANDBOX (cutbox-rows.mjs): the forced cells as the released guide's own fill.sh prints them over the translation a356e22777b11748… (all of the seat's roots in one cut). By AI agents, Wed Nov 11 2026. No macro, syntax, notation, axiom, sorry.
-/
import Derived.Test.YtefebcibcmjbaabChecked
import GoSem.Claim
import GoSem.ClaimJoined
import GoSem.ClaimMapViews
import Derived.JoinedTies
import Derived.KernelRfl
namespace Go.Proofs.Ytefebcibcmjbaab
/- THE CELL 'sum', in the pinned program and in every row, IS THE sha256 OF THE DUMP (.gsa) THAT YtefebcibcmjbaabProg.lean LOADS. Nothing in Lean hashes anything: it is a label: what it is worth is what the hold of that sum in a sandbox is worth. -/
noncomputable def Try.pinned : Pinned := { name := "ytefebcibcmjbaab", sum := "a356e22777b1174882076b7be586335876a0e0bee41d71ed28a3b40d3488016c", checked := Try.checked }
namespace Rows
def none {H : Type} : Left H := { results := [], args := [] }

/-- 'caduceuslaw6.DelimTells': WHATEVER THE INPUT: true; the input reads as it did. -/
def delimTellsSpec : ChangeSpec := { name := "delimTells", fn := fun _ => fun
  | [d1, d2, d3] => { results := [.lit (.bool true)], args := [d1, d2, d3] }
  | _ => none }
def delimTellsRow : OpenClaim := { program := "ytefebcibcmjbaab", sum := "a356e22777b1174882076b7be586335876a0e0bee41d71ed28a3b40d3488016c", func := "caduceus/caduceuslaw6.DelimTells", spec := "delimTells", apart := false }
def DelimTellsSaid : Prop := delimTellsRow.holds Try.pinned (OpenSpec.ofChange delimTellsSpec)

/-- ITS FALSE NEIGHBOUR: 'it returns false'. Refute it at one input. -/
def delimTellsWrong : ChangeSpec := { name := "delimTells", fn := fun _ => fun
  | [d1, d2, d3] => { results := [.lit (.bool false)], args := [d1, d2, d3] }
  | _ => none }
def DelimTellsWrongFalsely : Prop := delimTellsRow.holds Try.pinned (OpenSpec.ofChange delimTellsWrong)

/-- 'caduceuslaw6.DelimBack': WHATEVER THE INPUT: true; the input reads as it did. -/
def delimBackSpec : ChangeSpec := { name := "delimBack", fn := fun _ => fun
  | [d1, d2] => { results := [.lit (.bool true)], args := [d1, d2] }
  | _ => none }
def delimBackRow : OpenClaim := { program := "ytefebcibcmjbaab", sum := "a356e22777b1174882076b7be586335876a0e0bee41d71ed28a3b40d3488016c", func := "caduceus/caduceuslaw6.DelimBack", spec := "delimBack", apart := false }
def DelimBackSaid : Prop := delimBackRow.holds Try.pinned (OpenSpec.ofChange delimBackSpec)

/-- ITS FALSE NEIGHBOUR: 'it returns false'. Refute it at one input. -/
def delimBackWrong : ChangeSpec := { name := "delimBack", fn := fun _ => fun
  | [d1, d2] => { results := [.lit (.bool false)], args := [d1, d2] }
  | _ => none }
def DelimBackWrongFalsely : Prop := delimBackRow.holds Try.pinned (OpenSpec.ofChange delimBackWrong)

/-- 'caduceuslaw7.EscapeTells': WHATEVER THE INPUT: true; the input reads as it did. -/
def escapeTellsSpec : ChangeSpec := { name := "escapeTells", fn := fun _ => fun
  | [d1, d2] => { results := [.lit (.bool true)], args := [d1, d2] }
  | _ => none }
def escapeTellsRow : OpenClaim := { program := "ytefebcibcmjbaab", sum := "a356e22777b1174882076b7be586335876a0e0bee41d71ed28a3b40d3488016c", func := "caduceus/caduceuslaw7.EscapeTells", spec := "escapeTells", inPlace := ["internal/bytealg.IndexByteString"], apart := false }
def EscapeTellsSaid : Prop := escapeTellsRow.holds Try.pinned (OpenSpec.ofChange escapeTellsSpec)

/-- ITS FALSE NEIGHBOUR: 'it returns false'. Refute it at one input. -/
def escapeTellsWrong : ChangeSpec := { name := "escapeTells", fn := fun _ => fun
  | [d1, d2] => { results := [.lit (.bool false)], args := [d1, d2] }
  | _ => none }
def EscapeTellsWrongFalsely : Prop := escapeTellsRow.holds Try.pinned (OpenSpec.ofChange escapeTellsWrong)

/-- 'caduceuslaw7.EscapeOther': WHATEVER THE INPUT: true; the input reads as it did. -/
def escapeOtherSpec : ChangeSpec := { name := "escapeOther", fn := fun _ => fun
  | [d1, d2, d3] => { results := [.lit (.bool true)], args := [d1, d2, d3] }
  | _ => none }
def escapeOtherRow : OpenClaim := { program := "ytefebcibcmjbaab", sum := "a356e22777b1174882076b7be586335876a0e0bee41d71ed28a3b40d3488016c", func := "caduceus/caduceuslaw7.EscapeOther", spec := "escapeOther", inPlace := ["internal/bytealg.IndexByteString"], apart := false }
def EscapeOtherSaid : Prop := escapeOtherRow.holds Try.pinned (OpenSpec.ofChange escapeOtherSpec)

/-- ITS FALSE NEIGHBOUR: 'it returns false'. Refute it at one input. -/
def escapeOtherWrong : ChangeSpec := { name := "escapeOther", fn := fun _ => fun
  | [d1, d2, d3] => { results := [.lit (.bool false)], args := [d1, d2, d3] }
  | _ => none }
def EscapeOtherWrongFalsely : Prop := escapeOtherRow.holds Try.pinned (OpenSpec.ofChange escapeOtherWrong)

/-- 'caduceuslaw7.EscapeBack': WHATEVER THE INPUT: true; the input reads as it did. -/
def escapeBackSpec : ChangeSpec := { name := "escapeBack", fn := fun _ => fun
  | [d1, d2] => { results := [.lit (.bool true)], args := [d1, d2] }
  | _ => none }
def escapeBackRow : OpenClaim := { program := "ytefebcibcmjbaab", sum := "a356e22777b1174882076b7be586335876a0e0bee41d71ed28a3b40d3488016c", func := "caduceus/caduceuslaw7.EscapeBack", spec := "escapeBack", inPlace := ["internal/bytealg.IndexByteString"], apart := false }
def EscapeBackSaid : Prop := escapeBackRow.holds Try.pinned (OpenSpec.ofChange escapeBackSpec)

/-- ITS FALSE NEIGHBOUR: 'it returns false'. Refute it at one input. -/
def escapeBackWrong : ChangeSpec := { name := "escapeBack", fn := fun _ => fun
  | [d1, d2] => { results := [.lit (.bool false)], args := [d1, d2] }
  | _ => none }
def EscapeBackWrongFalsely : Prop := escapeBackRow.holds Try.pinned (OpenSpec.ofChange escapeBackWrong)

/-- 'caduceuslaw7.EscapePlain': WHATEVER THE INPUT: true; the input reads as it did. -/
def escapePlainSpec : ChangeSpec := { name := "escapePlain", fn := fun _ => fun
  | [d1, d2, d3] => { results := [.lit (.bool true)], args := [d1, d2, d3] }
  | _ => none }
def escapePlainRow : OpenClaim := { program := "ytefebcibcmjbaab", sum := "a356e22777b1174882076b7be586335876a0e0bee41d71ed28a3b40d3488016c", func := "caduceus/caduceuslaw7.EscapePlain", spec := "escapePlain", inPlace := ["internal/bytealg.IndexByteString"], apart := false }
def EscapePlainSaid : Prop := escapePlainRow.holds Try.pinned (OpenSpec.ofChange escapePlainSpec)

/-- ITS FALSE NEIGHBOUR: 'it returns false'. Refute it at one input. -/
def escapePlainWrong : ChangeSpec := { name := "escapePlain", fn := fun _ => fun
  | [d1, d2, d3] => { results := [.lit (.bool false)], args := [d1, d2, d3] }
  | _ => none }
def EscapePlainWrongFalsely : Prop := escapePlainRow.holds Try.pinned (OpenSpec.ofChange escapePlainWrong)

/-- 'caduceuslaw7.EscapeLong': WHATEVER THE INPUT: true; the input reads as it did. -/
def escapeLongSpec : ChangeSpec := { name := "escapeLong", fn := fun _ => fun
  | [d1, d2] => { results := [.lit (.bool true)], args := [d1, d2] }
  | _ => none }
def escapeLongRow : OpenClaim := { program := "ytefebcibcmjbaab", sum := "a356e22777b1174882076b7be586335876a0e0bee41d71ed28a3b40d3488016c", func := "caduceus/caduceuslaw7.EscapeLong", spec := "escapeLong", inPlace := ["internal/bytealg.IndexByteString"], apart := false }
def EscapeLongSaid : Prop := escapeLongRow.holds Try.pinned (OpenSpec.ofChange escapeLongSpec)

/-- ITS FALSE NEIGHBOUR: 'it returns false'. Refute it at one input. -/
def escapeLongWrong : ChangeSpec := { name := "escapeLong", fn := fun _ => fun
  | [d1, d2] => { results := [.lit (.bool false)], args := [d1, d2] }
  | _ => none }
def EscapeLongWrongFalsely : Prop := escapeLongRow.holds Try.pinned (OpenSpec.ofChange escapeLongWrong)

/- THE SECOND FORM. 'bulk': how many values and letters a reading holds, each counted each time it is reached (what is shared counts as often as it is met; a slice's spare places count too). A statement '..UptoSaid' is the law's where the arguments, and the package variables that the reading takes, are together of bulk at most 1048576: NARROWER than '..Said'. Prove '..Said' where nothing that the law and all that it calls make is longer than what came in: it says more and counts as full. Else prove '..UptoSaid'. A law counts once. -/
mutual
def uptoBulk {H : Type} : DataW H → Nat
  | .lit (.string bytes) => bytes.length + 1
  | .lit _ => 1
  | .nil => 1
  | .ptr d => uptoBulk d + 1
  | .slice elems spare => uptoBulkAll elems + uptoBulkAll spare + 1
  | .agg parts => uptoBulkAll parts + 1
  | .iface _ d => uptoBulk d + 1
  | .map entries => uptoBulkEntries entries + 1
  | .held _ => 1
def uptoBulkAll {H : Type} : List (DataW H) → Nat
  | [] => 0
  | d :: r => uptoBulk d + uptoBulkAll r
def uptoBulkEntries {H : Type} : List (Lit × DataW H) → Nat
  | [] => 0
  | x :: r => uptoBulkEntry x + uptoBulkEntries r
def uptoBulkEntry {H : Type} : Lit × DataW H → Nat
  | (.string bytes, d) => bytes.length + uptoBulk d + 1
  | (_, d) => uptoBulk d + 1
 end
def uptoSmall : (H : Type) → List (DataW H) → Bool := fun _ ds => decide (uptoBulkAll ds ≤ 1048576)
def OpenSpec.upto (s : _root_.Go.ChangeSpec) : _root_.Go.OpenSpec := { _root_.Go.OpenSpec.ofChange s with cond := some uptoSmall }

/-- 'caduceuslaw6.DelimTells', WHERE WHAT IT READS IS OF BULK AT MOST 1048576: true; the input reads as it did. -/
def delimTellsUptoRow : OpenClaim := { program := "ytefebcibcmjbaab", sum := "a356e22777b1174882076b7be586335876a0e0bee41d71ed28a3b40d3488016c", func := "caduceus/caduceuslaw6.DelimTells", spec := "delimTells", apart := false, narrowed := true }
def DelimTellsUptoSaid : Prop := delimTellsUptoRow.holds Try.pinned (OpenSpec.upto delimTellsSpec)

/-- 'caduceuslaw6.DelimBack', WHERE WHAT IT READS IS OF BULK AT MOST 1048576: true; the input reads as it did. -/
def delimBackUptoRow : OpenClaim := { program := "ytefebcibcmjbaab", sum := "a356e22777b1174882076b7be586335876a0e0bee41d71ed28a3b40d3488016c", func := "caduceus/caduceuslaw6.DelimBack", spec := "delimBack", apart := false, narrowed := true }
def DelimBackUptoSaid : Prop := delimBackUptoRow.holds Try.pinned (OpenSpec.upto delimBackSpec)

/-- 'caduceuslaw7.EscapeTells', WHERE WHAT IT READS IS OF BULK AT MOST 1048576: true; the input reads as it did. -/
def escapeTellsUptoRow : OpenClaim := { program := "ytefebcibcmjbaab", sum := "a356e22777b1174882076b7be586335876a0e0bee41d71ed28a3b40d3488016c", func := "caduceus/caduceuslaw7.EscapeTells", spec := "escapeTells", inPlace := ["internal/bytealg.IndexByteString"], apart := false, narrowed := true }
def EscapeTellsUptoSaid : Prop := escapeTellsUptoRow.holds Try.pinned (OpenSpec.upto escapeTellsSpec)

/-- 'caduceuslaw7.EscapeOther', WHERE WHAT IT READS IS OF BULK AT MOST 1048576: true; the input reads as it did. -/
def escapeOtherUptoRow : OpenClaim := { program := "ytefebcibcmjbaab", sum := "a356e22777b1174882076b7be586335876a0e0bee41d71ed28a3b40d3488016c", func := "caduceus/caduceuslaw7.EscapeOther", spec := "escapeOther", inPlace := ["internal/bytealg.IndexByteString"], apart := false, narrowed := true }
def EscapeOtherUptoSaid : Prop := escapeOtherUptoRow.holds Try.pinned (OpenSpec.upto escapeOtherSpec)

/-- 'caduceuslaw7.EscapeBack', WHERE WHAT IT READS IS OF BULK AT MOST 1048576: true; the input reads as it did. -/
def escapeBackUptoRow : OpenClaim := { program := "ytefebcibcmjbaab", sum := "a356e22777b1174882076b7be586335876a0e0bee41d71ed28a3b40d3488016c", func := "caduceus/caduceuslaw7.EscapeBack", spec := "escapeBack", inPlace := ["internal/bytealg.IndexByteString"], apart := false, narrowed := true }
def EscapeBackUptoSaid : Prop := escapeBackUptoRow.holds Try.pinned (OpenSpec.upto escapeBackSpec)

/-- 'caduceuslaw7.EscapePlain', WHERE WHAT IT READS IS OF BULK AT MOST 1048576: true; the input reads as it did. -/
def escapePlainUptoRow : OpenClaim := { program := "ytefebcibcmjbaab", sum := "a356e22777b1174882076b7be586335876a0e0bee41d71ed28a3b40d3488016c", func := "caduceus/caduceuslaw7.EscapePlain", spec := "escapePlain", inPlace := ["internal/bytealg.IndexByteString"], apart := false, narrowed := true }
def EscapePlainUptoSaid : Prop := escapePlainUptoRow.holds Try.pinned (OpenSpec.upto escapePlainSpec)

/-- 'caduceuslaw7.EscapeLong', WHERE WHAT IT READS IS OF BULK AT MOST 1048576: true; the input reads as it did. -/
def escapeLongUptoRow : OpenClaim := { program := "ytefebcibcmjbaab", sum := "a356e22777b1174882076b7be586335876a0e0bee41d71ed28a3b40d3488016c", func := "caduceus/caduceuslaw7.EscapeLong", spec := "escapeLong", inPlace := ["internal/bytealg.IndexByteString"], apart := false, narrowed := true }
def EscapeLongUptoSaid : Prop := escapeLongUptoRow.holds Try.pinned (OpenSpec.upto escapeLongSpec)

end Rows
end Go.Proofs.Ytefebcibcmjbaab
