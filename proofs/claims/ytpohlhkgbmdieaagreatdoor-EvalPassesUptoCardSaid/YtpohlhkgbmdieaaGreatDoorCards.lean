/-
  DERIVED. GIVEN WITH THE SEED: THE CARDS: each row of YtpohlhkgbmdieaaGreatDoorRows.lean that lists a variable, with what it lists TIED to the program's text (the seventh form; the later family's looks); each row that meets fmt, with fmt's text TOLD by the authors' own Lean function (tested against real Go, not proved from fmt's source: count such statements apart). THE CARD IS WHAT COUNTS. Prove the row's statement (the work); the ties are given (YtpohlhkgbmdieaaGreatDoorTie.lean); close each card by the builder's one call (the guide's Derived/Test/ToyasCard.lean, 'card_holds'). Laid BY PROGRAM, IN A SANDBOX (cutbox-door.mjs). By AI agents, Wed Nov 11 2026. No macro, syntax, notation, axiom, sorry.
-/
import Derived.Test.YtpohlhkgbmdieaaGreatDoorRows
import GoSem.ClaimSeven
namespace Go.Proofs.YtpohlhkgbmdieaaGreatDoor
namespace Rows

/-- THE TIED CARD OF 'caduceuslaw17.EvalFuel'. -/
def evalFuelCard : Claim7 := { stood := { row := evalFuelRow, standIns := [], harness := (true, "de88aebfb13f67f9da3f3cbb97411a00ce43b58c680def06037b1d9bbcfc3ac8"), looks := true }, kinds := [], alts := [], laidByText := true, laidKinds := [.data, .pinned], laidTests := true, laidLooks := .later }
def EvalFuelCardSaid : Prop := Claim7.holds Tryz.pinned (.plain (OpenSpec.ofChange evalFuelSpec)) evalFuelCard

/-- THE TIED CARD OF 'caduceuslaw17.EvalPasses'. -/
def evalPassesCard : Claim7 := { stood := { row := evalPassesRow, standIns := [], harness := (true, "de88aebfb13f67f9da3f3cbb97411a00ce43b58c680def06037b1d9bbcfc3ac8"), looks := true }, kinds := [], alts := [], laidByText := true, laidKinds := [.data, .pinned], laidTests := true, laidLooks := .later }
def EvalPassesCardSaid : Prop := Claim7.holds Tryz.pinned (.plain (OpenSpec.ofChange evalPassesSpec)) evalPassesCard

/-- THE SECOND FORM's CARD OF 'caduceuslaw17.EvalFuel'. -/
def evalFuelUptoCard : Claim7 := { stood := { row := evalFuelUptoRow, standIns := [], harness := (true, "de88aebfb13f67f9da3f3cbb97411a00ce43b58c680def06037b1d9bbcfc3ac8"), looks := true }, kinds := [], alts := [], laidByText := true, laidKinds := [.data, .pinned], laidTests := true, laidLooks := .later }
def EvalFuelUptoCardSaid : Prop := Claim7.holds Tryz.pinned (.plain (OpenSpec.upto evalFuelSpec)) evalFuelUptoCard

/-- THE SECOND FORM's CARD OF 'caduceuslaw17.EvalPasses'. -/
def evalPassesUptoCard : Claim7 := { stood := { row := evalPassesUptoRow, standIns := [], harness := (true, "de88aebfb13f67f9da3f3cbb97411a00ce43b58c680def06037b1d9bbcfc3ac8"), looks := true }, kinds := [], alts := [], laidByText := true, laidKinds := [.data, .pinned], laidTests := true, laidLooks := .later }
def EvalPassesUptoCardSaid : Prop := Claim7.holds Tryz.pinned (.plain (OpenSpec.upto evalPassesSpec)) evalPassesUptoCard
end Rows
end Go.Proofs.YtpohlhkgbmdieaaGreatDoor
