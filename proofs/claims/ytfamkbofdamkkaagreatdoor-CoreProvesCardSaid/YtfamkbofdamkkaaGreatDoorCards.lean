/-
  DERIVED. GIVEN WITH THE SEED: THE CARDS: each row of YtfamkbofdamkkaaGreatDoorRows.lean that lists a variable, with what it lists TIED to the program's text (the seventh form; the later family's looks); each row that meets fmt, with fmt's text TOLD by the authors' own Lean function (tested against real Go, not proved from fmt's source: count such statements apart). THE CARD IS WHAT COUNTS. Prove the row's statement (the work); the ties are given (YtfamkbofdamkkaaGreatDoorTie.lean); close each card by the builder's one call (the guide's Derived/Test/ToyasCard.lean, 'card_holds'). Laid BY PROGRAM, IN A SANDBOX (cutbox-door.mjs). By AI agents, Wed Nov 11 2026. No macro, syntax, notation, axiom, sorry.
-/
import Derived.Test.YtfamkbofdamkkaaGreatDoorRows
import GoSem.ClaimSeven
namespace Go.Proofs.YtfamkbofdamkkaaGreatDoor
namespace Rows

/-- THE TIED CARD OF 'airchecklaw27.CoreProves'. -/
def coreProvesCard : Claim7 := { stood := { row := coreProvesRow, standIns := [], harness := (true, "7ebcfc2c7c1c8010527ae622acf760221880e5084ff80bbc6ae945a9faf457e7"), looks := true }, kinds := [], alts := [], laidByText := true, laidKinds := [.data, .data], laidTests := true, laidLooks := .later }
def CoreProvesCardSaid : Prop := Claim7.holds Tryz.pinned (.plain (OpenSpec.ofChange coreProvesSpec)) coreProvesCard

/-- THE SECOND FORM's CARD OF 'airchecklaw27.CoreProves'. -/
def coreProvesUptoCard : Claim7 := { stood := { row := coreProvesUptoRow, standIns := [], harness := (true, "7ebcfc2c7c1c8010527ae622acf760221880e5084ff80bbc6ae945a9faf457e7"), looks := true }, kinds := [], alts := [], laidByText := true, laidKinds := [.data, .data], laidTests := true, laidLooks := .later }
def CoreProvesUptoCardSaid : Prop := Claim7.holds Tryz.pinned (.plain (OpenSpec.upto coreProvesSpec)) coreProvesUptoCard
end Rows
end Go.Proofs.YtfamkbofdamkkaaGreatDoor
