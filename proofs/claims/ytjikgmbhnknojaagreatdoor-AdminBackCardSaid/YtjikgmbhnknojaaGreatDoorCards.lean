/-
  DERIVED. GIVEN WITH THE SEED: THE CARDS: each row of YtjikgmbhnknojaaGreatDoorRows.lean that lists a variable, with what it lists TIED to the program's text (the seventh form; the later family's looks); each row that meets fmt, with fmt's text TOLD by the authors' own Lean function (tested against real Go, not proved from fmt's source: count such statements apart). THE CARD IS WHAT COUNTS. Prove the row's statement (the work); the ties are given (YtjikgmbhnknojaaGreatDoorTie.lean); close each card by the builder's one call (the guide's Derived/Test/ToyasCard.lean, 'card_holds'). Laid BY PROGRAM, IN A SANDBOX (cutbox-door.mjs). By AI agents, Wed Nov 11 2026. No macro, syntax, notation, axiom, sorry.
-/
import Derived.Test.YtjikgmbhnknojaaGreatDoorRows
import GoSem.ClaimSeven
namespace Go.Proofs.YtjikgmbhnknojaaGreatDoor
namespace Rows

/-- THE TIED CARD OF 'caduceuslaw25.AdminBack'. -/
def adminBackCard : Claim7 := { stood := { row := adminBackRow, standIns := [], harness := (true, "17b367ca6d3d4eb6b2e1469639dbde4c9b497e29bbfd685c079b3a6ad755fa2c"), looks := true }, kinds := [], alts := [], laidByText := true, laidKinds := [.data, .pinned], laidTests := true, laidLooks := .later }
def AdminBackCardSaid : Prop := Claim7.holds Tryz.pinned (.plain (OpenSpec.ofChange adminBackSpec)) adminBackCard

/-- THE SECOND FORM's CARD OF 'caduceuslaw25.AdminBack'. -/
def adminBackUptoCard : Claim7 := { stood := { row := adminBackUptoRow, standIns := [], harness := (true, "17b367ca6d3d4eb6b2e1469639dbde4c9b497e29bbfd685c079b3a6ad755fa2c"), looks := true }, kinds := [], alts := [], laidByText := true, laidKinds := [.data, .pinned], laidTests := true, laidLooks := .later }
def AdminBackUptoCardSaid : Prop := Claim7.holds Tryz.pinned (.plain (OpenSpec.upto adminBackSpec)) adminBackUptoCard
end Rows
end Go.Proofs.YtjikgmbhnknojaaGreatDoor
