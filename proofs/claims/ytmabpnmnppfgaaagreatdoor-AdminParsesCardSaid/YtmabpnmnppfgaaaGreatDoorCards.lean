/-
  DERIVED. GIVEN WITH THE SEED: THE CARDS: each row of YtmabpnmnppfgaaaGreatDoorRows.lean that lists a variable, with what it lists TIED to the program's text (the seventh form; the later family's looks); each row that meets fmt, with fmt's text TOLD by the authors' own Lean function (tested against real Go, not proved from fmt's source: count such statements apart). THE CARD IS WHAT COUNTS. Prove the row's statement (the work); the ties are given (YtmabpnmnppfgaaaGreatDoorTie.lean); close each card by the builder's one call (the guide's Derived/Test/ToyasCard.lean, 'card_holds'). Laid BY PROGRAM, IN A SANDBOX (cutbox-door.mjs). By AI agents, Wed Nov 11 2026. No macro, syntax, notation, axiom, sorry.
-/
import Derived.Test.YtmabpnmnppfgaaaGreatDoorRows
import GoSem.ClaimSeven
namespace Go.Proofs.YtmabpnmnppfgaaaGreatDoor
namespace Rows

/-- THE TIED CARD OF 'caduceuslaw25.AdminParses'. -/
def adminParsesCard : Claim7 := { stood := { row := adminParsesRow, standIns := [], harness := (true, "c8d18b93303d5ee51f061115c608aa08d013c8ddebcc47e3a3c01374d0b9fe08"), looks := true }, kinds := [], alts := [], laidByText := true, laidKinds := [.data, .pinned], laidTests := true, laidLooks := .later }
def AdminParsesCardSaid : Prop := Claim7.holds Tryz.pinned (.plain (OpenSpec.ofChange adminParsesSpec)) adminParsesCard

/-- THE SECOND FORM's CARD OF 'caduceuslaw25.AdminParses'. -/
def adminParsesUptoCard : Claim7 := { stood := { row := adminParsesUptoRow, standIns := [], harness := (true, "c8d18b93303d5ee51f061115c608aa08d013c8ddebcc47e3a3c01374d0b9fe08"), looks := true }, kinds := [], alts := [], laidByText := true, laidKinds := [.data, .pinned], laidTests := true, laidLooks := .later }
def AdminParsesUptoCardSaid : Prop := Claim7.holds Tryz.pinned (.plain (OpenSpec.upto adminParsesSpec)) adminParsesUptoCard
end Rows
end Go.Proofs.YtmabpnmnppfgaaaGreatDoor
