/-
  DERIVED. GIVEN WITH THE SEED: THE CARDS: each row of YtceafmknfkaedaaGreatDoorRows.lean that lists a variable, with what it lists TIED to the program's text (the seventh form; the later family's looks); each row that meets fmt, with fmt's text TOLD by the authors' own Lean function (tested against real Go, not proved from fmt's source: count such statements apart). THE CARD IS WHAT COUNTS. Prove the row's statement (the work); the ties are given (YtceafmknfkaedaaGreatDoorTie.lean); close each card by the builder's one call (the guide's Derived/Test/ToyasCard.lean, 'card_holds'). Laid BY PROGRAM, IN A SANDBOX (cutbox-door.mjs). By AI agents, Wed Nov 11 2026. No macro, syntax, notation, axiom, sorry.
-/
import Derived.Test.YtceafmknfkaedaaGreatDoorRows
import GoSem.ClaimSeven
namespace Go.Proofs.YtceafmknfkaedaaGreatDoor
namespace Rows

/-- THE TIED CARD OF 'caduceuslaw24.EngineNone'. -/
def engineNoneCard : Claim7 := { stood := { row := engineNoneRow, standIns := [], harness := (true, "52fcf6e1c85a5a1c4bf541c55deb9bc0ddcb2728fa47cfec26fd0b7a2f5c7253"), looks := true }, kinds := [], alts := [], laidByText := true, laidKinds := [.pinned, .data], laidTests := true, laidLooks := .later }
def EngineNoneCardSaid : Prop := Claim7.holds Tryz.pinned (.plain (OpenSpec.ofChange engineNoneSpec)) engineNoneCard

/-- THE SECOND FORM's CARD OF 'caduceuslaw24.EngineNone'. -/
def engineNoneUptoCard : Claim7 := { stood := { row := engineNoneUptoRow, standIns := [], harness := (true, "52fcf6e1c85a5a1c4bf541c55deb9bc0ddcb2728fa47cfec26fd0b7a2f5c7253"), looks := true }, kinds := [], alts := [], laidByText := true, laidKinds := [.pinned, .data], laidTests := true, laidLooks := .later }
def EngineNoneUptoCardSaid : Prop := Claim7.holds Tryz.pinned (.plain (OpenSpec.upto engineNoneSpec)) engineNoneUptoCard
end Rows
end Go.Proofs.YtceafmknfkaedaaGreatDoor
