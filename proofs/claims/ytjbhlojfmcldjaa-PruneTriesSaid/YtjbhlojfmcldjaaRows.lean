/-
  No cell of these rows narrows 'for every input' (looked for: loops, veiled, ifaces, maps, wideKeys, modest, calm, conditions, laid).
  DERIVED. THE GIVEN ROWS OF THIS SEAT. 4 by the template 'for every input the law returns true; each argument reads behind the call as it read before'; 0 by the template 'total and deterministic' (their statements: YtjbhlojfmcldjaaTotals.lean).
  GIVEN WITH THE SEED: the statements are not yours to turn. If you find one false, say at which input.
  Laid BY PROGRAM, IN A SANDBOX (cutbox-rows.mjs): the forced cells as the released guide's own fill.sh prints them over the translation 51f95857cc4a575d… (all of the seat's roots in one cut). By AI agents, Wed Nov 11 2026. No macro, syntax, notation, axiom, sorry.
-/
import Derived.Test.YtjbhlojfmcldjaaChecked
import GoSem.Claim
import GoSem.ClaimJoined
import GoSem.ClaimMapViews
import Derived.JoinedTies
import Derived.KernelRfl
namespace Go.Proofs.Ytjbhlojfmcldjaa
/- THE CELL 'sum', in the pinned program and in every row, IS THE sha256 OF THE DUMP (.gsa) THAT YtjbhlojfmcldjaaProg.lean LOADS. Nothing in Lean hashes anything: it is a label: what it is worth is what the hold of that sum in a sandbox is worth. -/
noncomputable def Try.pinned : Pinned := { name := "ytjbhlojfmcldjaa", sum := "51f95857cc4a575d4e6e15e6c72b30489596a99b8c449965561a8ed8b2d999c5", checked := Try.checked }
namespace Rows
def none {H : Type} : Left H := { results := [], args := [] }

/-- 'caduceuslaw21.PruneForward': WHATEVER THE INPUT: true; the input reads as it did. -/
def pruneForwardSpec : ChangeSpec := { name := "pruneForward", fn := fun _ => fun
  | [d1, d2, d3] => { results := [.lit (.bool true)], args := [d1, d2, d3] }
  | _ => none }
def pruneForwardRow : OpenClaim := { program := "ytjbhlojfmcldjaa", sum := "51f95857cc4a575d4e6e15e6c72b30489596a99b8c449965561a8ed8b2d999c5", func := "caduceus/caduceuslaw21.PruneForward", spec := "pruneForward", unfollowed := true, recurses := true, plainKeys := false, apart := false }
def PruneForwardSaid : Prop := pruneForwardRow.holds Try.pinned (OpenSpec.ofChange pruneForwardSpec)

/-- ITS FALSE NEIGHBOUR: 'it returns false'. Refute it at one input. -/
def pruneForwardWrong : ChangeSpec := { name := "pruneForward", fn := fun _ => fun
  | [d1, d2, d3] => { results := [.lit (.bool false)], args := [d1, d2, d3] }
  | _ => none }
def PruneForwardWrongFalsely : Prop := pruneForwardRow.holds Try.pinned (OpenSpec.ofChange pruneForwardWrong)

/-- 'caduceuslaw21.PruneChains': WHATEVER THE INPUT: true; the input reads as it did. -/
def pruneChainsSpec : ChangeSpec := { name := "pruneChains", fn := fun _ => fun
  | [d1, d2] => { results := [.lit (.bool true)], args := [d1, d2] }
  | _ => none }
def pruneChainsRow : OpenClaim := { program := "ytjbhlojfmcldjaa", sum := "51f95857cc4a575d4e6e15e6c72b30489596a99b8c449965561a8ed8b2d999c5", func := "caduceus/caduceuslaw21.PruneChains", spec := "pruneChains", unfollowed := true, recurses := true, plainKeys := false, apart := false }
def PruneChainsSaid : Prop := pruneChainsRow.holds Try.pinned (OpenSpec.ofChange pruneChainsSpec)

/-- ITS FALSE NEIGHBOUR: 'it returns false'. Refute it at one input. -/
def pruneChainsWrong : ChangeSpec := { name := "pruneChains", fn := fun _ => fun
  | [d1, d2] => { results := [.lit (.bool false)], args := [d1, d2] }
  | _ => none }
def PruneChainsWrongFalsely : Prop := pruneChainsRow.holds Try.pinned (OpenSpec.ofChange pruneChainsWrong)

/-- 'caduceuslaw21.PruneOld': WHATEVER THE INPUT: true; the input reads as it did. -/
def pruneOldSpec : ChangeSpec := { name := "pruneOld", fn := fun _ => fun
  | [d1, d2, d3, d4] => { results := [.lit (.bool true)], args := [d1, d2, d3, d4] }
  | _ => none }
def pruneOldRow : OpenClaim := { program := "ytjbhlojfmcldjaa", sum := "51f95857cc4a575d4e6e15e6c72b30489596a99b8c449965561a8ed8b2d999c5", func := "caduceus/caduceuslaw21.PruneOld", spec := "pruneOld", unfollowed := true, recurses := true, plainKeys := false, apart := false }
def PruneOldSaid : Prop := pruneOldRow.holds Try.pinned (OpenSpec.ofChange pruneOldSpec)

/-- ITS FALSE NEIGHBOUR: 'it returns false'. Refute it at one input. -/
def pruneOldWrong : ChangeSpec := { name := "pruneOld", fn := fun _ => fun
  | [d1, d2, d3, d4] => { results := [.lit (.bool false)], args := [d1, d2, d3, d4] }
  | _ => none }
def PruneOldWrongFalsely : Prop := pruneOldRow.holds Try.pinned (OpenSpec.ofChange pruneOldWrong)

/-- 'caduceuslaw21.PruneTries': WHATEVER THE INPUT: true; the input reads as it did. -/
def pruneTriesSpec : ChangeSpec := { name := "pruneTries", fn := fun _ => fun
  | [d1, d2, d3] => { results := [.lit (.bool true)], args := [d1, d2, d3] }
  | _ => none }
def pruneTriesRow : OpenClaim := { program := "ytjbhlojfmcldjaa", sum := "51f95857cc4a575d4e6e15e6c72b30489596a99b8c449965561a8ed8b2d999c5", func := "caduceus/caduceuslaw21.PruneTries", spec := "pruneTries", unfollowed := true, recurses := true, plainKeys := false, apart := false }
def PruneTriesSaid : Prop := pruneTriesRow.holds Try.pinned (OpenSpec.ofChange pruneTriesSpec)

/-- ITS FALSE NEIGHBOUR: 'it returns false'. Refute it at one input. -/
def pruneTriesWrong : ChangeSpec := { name := "pruneTries", fn := fun _ => fun
  | [d1, d2, d3] => { results := [.lit (.bool false)], args := [d1, d2, d3] }
  | _ => none }
def PruneTriesWrongFalsely : Prop := pruneTriesRow.holds Try.pinned (OpenSpec.ofChange pruneTriesWrong)

/- THE SECOND FORM. 'bulk': how many values and letters a reading holds, each counted each time it is reached (what is shared counts as often as it is met; a slice's spare places count too). A statement '..UptoSaid' is the law's where the arguments, and the package variables that the reading takes, are together of bulk at most 1048576: NARROWER than '..Said'. Prove '..Said' where nothing that the law and all that it calls make is longer than what came in: it says more and counts as full. Else prove '..UptoSaid'. A law counts once. -/
mutual
def uptoBulk {H : Type} : DataW H → Nat
  | .lit (.string bytes) => bytes.length + 1
  | .lit _ => 1
  | .nil => 1
  | .ptr d => uptoBulk d + 1
  | .slice elems spare => uptoBulkAll elems + uptoBulkAll spare + 1
  | .agg parts => uptoBulkAll parts + 1
  | .iface _ d => uptoBulk d + 1
  | .map entries => uptoBulkEntries entries + 1
  | .held _ => 1
def uptoBulkAll {H : Type} : List (DataW H) → Nat
  | [] => 0
  | d :: r => uptoBulk d + uptoBulkAll r
def uptoBulkEntries {H : Type} : List (Lit × DataW H) → Nat
  | [] => 0
  | x :: r => uptoBulkEntry x + uptoBulkEntries r
def uptoBulkEntry {H : Type} : Lit × DataW H → Nat
  | (.string bytes, d) => bytes.length + uptoBulk d + 1
  | (_, d) => uptoBulk d + 1
 end
def uptoSmall : (H : Type) → List (DataW H) → Bool := fun _ ds => decide (uptoBulkAll ds ≤ 1048576)
def OpenSpec.upto (s : _root_.Go.ChangeSpec) : _root_.Go.OpenSpec := { _root_.Go.OpenSpec.ofChange s with cond := some uptoSmall }

/-- 'caduceuslaw21.PruneForward', WHERE WHAT IT READS IS OF BULK AT MOST 1048576: true; the input reads as it did. -/
def pruneForwardUptoRow : OpenClaim := { program := "ytjbhlojfmcldjaa", sum := "51f95857cc4a575d4e6e15e6c72b30489596a99b8c449965561a8ed8b2d999c5", func := "caduceus/caduceuslaw21.PruneForward", spec := "pruneForward", unfollowed := true, recurses := true, plainKeys := false, apart := false, narrowed := true }
def PruneForwardUptoSaid : Prop := pruneForwardUptoRow.holds Try.pinned (OpenSpec.upto pruneForwardSpec)

/-- 'caduceuslaw21.PruneChains', WHERE WHAT IT READS IS OF BULK AT MOST 1048576: true; the input reads as it did. -/
def pruneChainsUptoRow : OpenClaim := { program := "ytjbhlojfmcldjaa", sum := "51f95857cc4a575d4e6e15e6c72b30489596a99b8c449965561a8ed8b2d999c5", func := "caduceus/caduceuslaw21.PruneChains", spec := "pruneChains", unfollowed := true, recurses := true, plainKeys := false, apart := false, narrowed := true }
def PruneChainsUptoSaid : Prop := pruneChainsUptoRow.holds Try.pinned (OpenSpec.upto pruneChainsSpec)

/-- 'caduceuslaw21.PruneOld', WHERE WHAT IT READS IS OF BULK AT MOST 1048576: true; the input reads as it did. -/
def pruneOldUptoRow : OpenClaim := { program := "ytjbhlojfmcldjaa", sum := "51f95857cc4a575d4e6e15e6c72b30489596a99b8c449965561a8ed8b2d999c5", func := "caduceus/caduceuslaw21.PruneOld", spec := "pruneOld", unfollowed := true, recurses := true, plainKeys := false, apart := false, narrowed := true }
def PruneOldUptoSaid : Prop := pruneOldUptoRow.holds Try.pinned (OpenSpec.upto pruneOldSpec)

/-- 'caduceuslaw21.PruneTries', WHERE WHAT IT READS IS OF BULK AT MOST 1048576: true; the input reads as it did. -/
def pruneTriesUptoRow : OpenClaim := { program := "ytjbhlojfmcldjaa", sum := "51f95857cc4a575d4e6e15e6c72b30489596a99b8c449965561a8ed8b2d999c5", func := "caduceus/caduceuslaw21.PruneTries", spec := "pruneTries", unfollowed := true, recurses := true, plainKeys := false, apart := false, narrowed := true }
def PruneTriesUptoSaid : Prop := pruneTriesUptoRow.holds Try.pinned (OpenSpec.upto pruneTriesSpec)

end Rows
end Go.Proofs.Ytjbhlojfmcldjaa
