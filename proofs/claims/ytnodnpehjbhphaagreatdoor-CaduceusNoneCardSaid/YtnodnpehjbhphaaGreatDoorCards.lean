/-
  DERIVED. GIVEN WITH THE SEED: THE CARDS: each row of YtnodnpehjbhphaaGreatDoorRows.lean that lists a variable, with what it lists TIED to the program's text (the seventh form; the later family's looks); each row that meets fmt, with fmt's text TOLD by the authors' own Lean function (tested against real Go, not proved from fmt's source: count such statements apart). THE CARD IS WHAT COUNTS. Prove the row's statement (the work); the ties are given (YtnodnpehjbhphaaGreatDoorTie.lean); close each card by the builder's one call (the guide's Derived/Test/ToyasCard.lean, 'card_holds'). Laid BY PROGRAM, IN A SANDBOX (cutbox-door.mjs). By AI agents, Wed Nov 11 2026. No macro, syntax, notation, axiom, sorry.
-/
import Derived.Test.YtnodnpehjbhphaaGreatDoorRows
import GoSem.ClaimSeven
namespace Go.Proofs.YtnodnpehjbhphaaGreatDoor
namespace Rows

/-- THE TIED CARD OF 'caduceuslaw27.CaduceusNone'. -/
def caduceusNoneCard : Claim7 := { stood := { row := caduceusNoneRow, standIns := [], harness := (true, "1fd7c04c540af28cf8ab998d7ef1a8cb3b2e292c1cc6b104ce24f48cbb3555e5"), looks := true }, kinds := [], alts := [], laidByText := true, laidKinds := [.pinned, .data], laidTests := true, laidLooks := .later }
def CaduceusNoneCardSaid : Prop := Claim7.holds Tryz.pinned (.plain (OpenSpec.ofChange caduceusNoneSpec)) caduceusNoneCard

/-- THE SECOND FORM's CARD OF 'caduceuslaw27.CaduceusNone'. -/
def caduceusNoneUptoCard : Claim7 := { stood := { row := caduceusNoneUptoRow, standIns := [], harness := (true, "1fd7c04c540af28cf8ab998d7ef1a8cb3b2e292c1cc6b104ce24f48cbb3555e5"), looks := true }, kinds := [], alts := [], laidByText := true, laidKinds := [.pinned, .data], laidTests := true, laidLooks := .later }
def CaduceusNoneUptoCardSaid : Prop := Claim7.holds Tryz.pinned (.plain (OpenSpec.upto caduceusNoneSpec)) caduceusNoneUptoCard
end Rows
end Go.Proofs.YtnodnpehjbhphaaGreatDoor
