/-
  DERIVED. GIVEN WITH THE SEED: THE CARDS: each row of YtlbdpcokddpjpaaGreatDoorRows.lean that lists a variable, with what it lists TIED to the program's text (the seventh form; the later family's looks); each row that meets fmt, with fmt's text TOLD by the authors' own Lean function (tested against real Go, not proved from fmt's source: count such statements apart). THE CARD IS WHAT COUNTS. Prove the row's statement (the work); the ties are given (YtlbdpcokddpjpaaGreatDoorTie.lean); close each card by the builder's one call (the guide's Derived/Test/ToyasCard.lean, 'card_holds'). Laid BY PROGRAM, IN A SANDBOX (cutbox-door.mjs). By AI agents, Wed Nov 11 2026. No macro, syntax, notation, axiom, sorry.
-/
import Derived.Test.YtlbdpcokddpjpaaGreatDoorRows
import GoSem.ClaimSeven
namespace Go.Proofs.YtlbdpcokddpjpaaGreatDoor
namespace Rows

/-- THE TIED CARD OF 'caduceuslaw23.DestFiles'. -/
def destFilesCard : Claim7 := { stood := { row := destFilesRow, standIns := [], harness := (true, "0ef277316775f5f4f017cbf79aa902144e6a814be0130a6eab7bba289149619f"), looks := true }, kinds := [], alts := [], laidByText := true, laidKinds := [.data, .pinned], laidTests := true, laidLooks := .later }
def DestFilesCardSaid : Prop := Claim7.holds Tryz.pinned (.plain (OpenSpec.ofChange destFilesSpec)) destFilesCard

/-- THE TIED CARD OF 'caduceuslaw23.DestTorn'. -/
def destTornCard : Claim7 := { stood := { row := destTornRow, standIns := [], harness := (true, "0ef277316775f5f4f017cbf79aa902144e6a814be0130a6eab7bba289149619f"), looks := true }, kinds := [], alts := [], laidByText := true, laidKinds := [.data, .pinned], laidTests := true, laidLooks := .later }
def DestTornCardSaid : Prop := Claim7.holds Tryz.pinned (.plain (OpenSpec.ofChange destTornSpec)) destTornCard

/-- THE SECOND FORM's CARD OF 'caduceuslaw23.DestFiles'. -/
def destFilesUptoCard : Claim7 := { stood := { row := destFilesUptoRow, standIns := [], harness := (true, "0ef277316775f5f4f017cbf79aa902144e6a814be0130a6eab7bba289149619f"), looks := true }, kinds := [], alts := [], laidByText := true, laidKinds := [.data, .pinned], laidTests := true, laidLooks := .later }
def DestFilesUptoCardSaid : Prop := Claim7.holds Tryz.pinned (.plain (OpenSpec.upto destFilesSpec)) destFilesUptoCard

/-- THE SECOND FORM's CARD OF 'caduceuslaw23.DestTorn'. -/
def destTornUptoCard : Claim7 := { stood := { row := destTornUptoRow, standIns := [], harness := (true, "0ef277316775f5f4f017cbf79aa902144e6a814be0130a6eab7bba289149619f"), looks := true }, kinds := [], alts := [], laidByText := true, laidKinds := [.data, .pinned], laidTests := true, laidLooks := .later }
def DestTornUptoCardSaid : Prop := Claim7.holds Tryz.pinned (.plain (OpenSpec.upto destTornSpec)) destTornUptoCard
end Rows
end Go.Proofs.YtlbdpcokddpjpaaGreatDoor
