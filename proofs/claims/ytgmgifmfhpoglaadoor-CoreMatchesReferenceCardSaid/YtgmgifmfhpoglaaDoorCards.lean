/-
  DERIVED. GIVEN WITH THE SEED: THE CARDS: each row of YtgmgifmfhpoglaaDoorRows.lean that lists a variable, with what it lists TIED to the program's text (the seventh form; the later family's looks); each row that meets fmt, with fmt's text TOLD by the authors' own Lean function (tested against real Go, not proved from fmt's source: count such statements apart). THE CARD IS WHAT COUNTS. Prove the row's statement (the work); the ties are given (YtgmgifmfhpoglaaDoorTie.lean); close each card by the builder's one call (the guide's Derived/Test/ToyasCard.lean, 'card_holds'). Laid BY PROGRAM, IN A SANDBOX (cutbox-door.mjs). By AI agents, Wed Nov 11 2026. No macro, syntax, notation, axiom, sorry.
-/
import Derived.Test.YtgmgifmfhpoglaaDoorRows
import GoSem.ClaimSeven
namespace Go.Proofs.YtgmgifmfhpoglaaDoor
namespace Rows

/-- THE TIED CARD OF 'airchecklaw27.CoreMatchesReference'. -/
def coreMatchesReferenceCard : Claim7 := { stood := { row := coreMatchesReferenceRow, standIns := [], harness := (true, "0b2fa41a6a5a1ab3c33f142002b5b775d90f75196e2fcbb5820996c7531c1cd6"), looks := false }, kinds := [], alts := [], laidByText := true, laidKinds := [.data, .data], laidTests := true, laidLooks := .later }
def CoreMatchesReferenceCardSaid : Prop := Claim7.holds Tryd.pinned (.plain (OpenSpec.ofChange coreMatchesReferenceSpec)) coreMatchesReferenceCard

/-- THE TIED CARD OF 'airchecklaw27.CoreShrinks'. -/
def coreShrinksCard : Claim7 := { stood := { row := coreShrinksRow, standIns := [], harness := (true, "0b2fa41a6a5a1ab3c33f142002b5b775d90f75196e2fcbb5820996c7531c1cd6"), looks := false }, kinds := [], alts := [], laidByText := true, laidKinds := [.data, .data], laidTests := true, laidLooks := .later }
def CoreShrinksCardSaid : Prop := Claim7.holds Tryd.pinned (.plain (OpenSpec.ofChange coreShrinksSpec)) coreShrinksCard

/-- THE TIED CARD OF 'airchecklaw27.CoreHits'. -/
def coreHitsCard : Claim7 := { stood := { row := coreHitsRow, standIns := [], harness := (true, "0b2fa41a6a5a1ab3c33f142002b5b775d90f75196e2fcbb5820996c7531c1cd6"), looks := false }, kinds := [], alts := [], laidByText := true, laidKinds := [.data, .data], laidTests := true, laidLooks := .later }
def CoreHitsCardSaid : Prop := Claim7.holds Tryd.pinned (.plain (OpenSpec.ofChange coreHitsSpec)) coreHitsCard

/-- THE TIED CARD OF 'airchecklaw27.CoreGrows'. -/
def coreGrowsCard : Claim7 := { stood := { row := coreGrowsRow, standIns := [], harness := (true, "0b2fa41a6a5a1ab3c33f142002b5b775d90f75196e2fcbb5820996c7531c1cd6"), looks := false }, kinds := [], alts := [], laidByText := true, laidKinds := [.data, .data], laidTests := true, laidLooks := .later }
def CoreGrowsCardSaid : Prop := Claim7.holds Tryd.pinned (.plain (OpenSpec.ofChange coreGrowsSpec)) coreGrowsCard

/-- THE TIED CARD OF 'airchecklaw27.CoreLeast'. -/
def coreLeastCard : Claim7 := { stood := { row := coreLeastRow, standIns := [], harness := (true, "0b2fa41a6a5a1ab3c33f142002b5b775d90f75196e2fcbb5820996c7531c1cd6"), looks := false }, kinds := [], alts := [], laidByText := true, laidKinds := [.data, .data], laidTests := true, laidLooks := .later }
def CoreLeastCardSaid : Prop := Claim7.holds Tryd.pinned (.plain (OpenSpec.ofChange coreLeastSpec)) coreLeastCard

/-- THE TIED CARD OF 'airchecklaw27.CoreRepairs'. -/
def coreRepairsCard : Claim7 := { stood := { row := coreRepairsRow, standIns := [], harness := (true, "0b2fa41a6a5a1ab3c33f142002b5b775d90f75196e2fcbb5820996c7531c1cd6"), looks := false }, kinds := [], alts := [], laidByText := true, laidKinds := [.data, .data], laidTests := true, laidLooks := .later }
def CoreRepairsCardSaid : Prop := Claim7.holds Tryd.pinned (.plain (OpenSpec.ofChange coreRepairsSpec)) coreRepairsCard

/-- THE SECOND FORM's CARD OF 'airchecklaw27.CoreMatchesReference'. -/
def coreMatchesReferenceUptoCard : Claim7 := { stood := { row := coreMatchesReferenceUptoRow, standIns := [], harness := (true, "0b2fa41a6a5a1ab3c33f142002b5b775d90f75196e2fcbb5820996c7531c1cd6"), looks := false }, kinds := [], alts := [], laidByText := true, laidKinds := [.data, .data], laidTests := true, laidLooks := .later }
def CoreMatchesReferenceUptoCardSaid : Prop := Claim7.holds Tryd.pinned (.plain (OpenSpec.upto coreMatchesReferenceSpec)) coreMatchesReferenceUptoCard

/-- THE SECOND FORM's CARD OF 'airchecklaw27.CoreShrinks'. -/
def coreShrinksUptoCard : Claim7 := { stood := { row := coreShrinksUptoRow, standIns := [], harness := (true, "0b2fa41a6a5a1ab3c33f142002b5b775d90f75196e2fcbb5820996c7531c1cd6"), looks := false }, kinds := [], alts := [], laidByText := true, laidKinds := [.data, .data], laidTests := true, laidLooks := .later }
def CoreShrinksUptoCardSaid : Prop := Claim7.holds Tryd.pinned (.plain (OpenSpec.upto coreShrinksSpec)) coreShrinksUptoCard

/-- THE SECOND FORM's CARD OF 'airchecklaw27.CoreHits'. -/
def coreHitsUptoCard : Claim7 := { stood := { row := coreHitsUptoRow, standIns := [], harness := (true, "0b2fa41a6a5a1ab3c33f142002b5b775d90f75196e2fcbb5820996c7531c1cd6"), looks := false }, kinds := [], alts := [], laidByText := true, laidKinds := [.data, .data], laidTests := true, laidLooks := .later }
def CoreHitsUptoCardSaid : Prop := Claim7.holds Tryd.pinned (.plain (OpenSpec.upto coreHitsSpec)) coreHitsUptoCard

/-- THE SECOND FORM's CARD OF 'airchecklaw27.CoreGrows'. -/
def coreGrowsUptoCard : Claim7 := { stood := { row := coreGrowsUptoRow, standIns := [], harness := (true, "0b2fa41a6a5a1ab3c33f142002b5b775d90f75196e2fcbb5820996c7531c1cd6"), looks := false }, kinds := [], alts := [], laidByText := true, laidKinds := [.data, .data], laidTests := true, laidLooks := .later }
def CoreGrowsUptoCardSaid : Prop := Claim7.holds Tryd.pinned (.plain (OpenSpec.upto coreGrowsSpec)) coreGrowsUptoCard

/-- THE SECOND FORM's CARD OF 'airchecklaw27.CoreLeast'. -/
def coreLeastUptoCard : Claim7 := { stood := { row := coreLeastUptoRow, standIns := [], harness := (true, "0b2fa41a6a5a1ab3c33f142002b5b775d90f75196e2fcbb5820996c7531c1cd6"), looks := false }, kinds := [], alts := [], laidByText := true, laidKinds := [.data, .data], laidTests := true, laidLooks := .later }
def CoreLeastUptoCardSaid : Prop := Claim7.holds Tryd.pinned (.plain (OpenSpec.upto coreLeastSpec)) coreLeastUptoCard

/-- THE SECOND FORM's CARD OF 'airchecklaw27.CoreRepairs'. -/
def coreRepairsUptoCard : Claim7 := { stood := { row := coreRepairsUptoRow, standIns := [], harness := (true, "0b2fa41a6a5a1ab3c33f142002b5b775d90f75196e2fcbb5820996c7531c1cd6"), looks := false }, kinds := [], alts := [], laidByText := true, laidKinds := [.data, .data], laidTests := true, laidLooks := .later }
def CoreRepairsUptoCardSaid : Prop := Claim7.holds Tryd.pinned (.plain (OpenSpec.upto coreRepairsSpec)) coreRepairsUptoCard
end Rows
end Go.Proofs.YtgmgifmfhpoglaaDoor
