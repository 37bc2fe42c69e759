/-
  DERIVED. GIVEN WITH THE SEED: THE CARDS: each row of YtaaongcfeldcoaaDoorRows.lean that lists a variable, with what it lists TIED to the program's text (the seventh form; the later family's looks); each row that meets fmt, with fmt's text TOLD by the authors' own Lean function (tested against real Go, not proved from fmt's source: count such statements apart). THE CARD IS WHAT COUNTS. Prove the row's statement (the work); the ties are given (YtaaongcfeldcoaaDoorTie.lean); close each card by the builder's one call (the guide's Derived/Test/ToyasCard.lean, 'card_holds'). Laid BY PROGRAM, IN A SANDBOX (cutbox-door.mjs). By AI agents, Wed Nov 11 2026. No macro, syntax, notation, axiom, sorry.
-/
import Derived.Test.YtaaongcfeldcoaaDoorRows
import GoSem.ClaimSeven
namespace Go.Proofs.YtaaongcfeldcoaaDoor
namespace Rows

/-- THE TIED CARD OF 'airchecklaw25.PlanBest'. -/
def planBestCard : Claim7 := { stood := { row := planBestRow, standIns := [], harness := (true, "e1be3643b0ea18599b1089eca6ad4d359a2da325996e87dae821b7fe14053fdb"), looks := false }, kinds := [], alts := [], laidByText := true, laidKinds := [.funcs], laidTests := true, laidLooks := .later }
def PlanBestCardSaid : Prop := Claim7.holds Tryd.pinned (.plain (OpenSpec.ofChange planBestSpec)) planBestCard

/-- THE TIED CARD OF 'airchecklaw25.PlanRefused'. -/
def planRefusedCard : Claim7 := { stood := { row := planRefusedRow, standIns := [], harness := (true, "e1be3643b0ea18599b1089eca6ad4d359a2da325996e87dae821b7fe14053fdb"), looks := false }, kinds := [], alts := [], laidByText := true, laidKinds := [.funcs], laidTests := true, laidLooks := .later }
def PlanRefusedCardSaid : Prop := Claim7.holds Tryd.pinned (.plain (OpenSpec.ofChange planRefusedSpec)) planRefusedCard

/-- THE TIED CARD OF 'airchecklaw25.PlanMore'. -/
def planMoreCard : Claim7 := { stood := { row := planMoreRow, standIns := [], harness := (true, "e1be3643b0ea18599b1089eca6ad4d359a2da325996e87dae821b7fe14053fdb"), looks := false }, kinds := [], alts := [], laidByText := true, laidKinds := [.funcs], laidTests := true, laidLooks := .later }
def PlanMoreCardSaid : Prop := Claim7.holds Tryd.pinned (.plain (OpenSpec.ofChange planMoreSpec)) planMoreCard

/-- THE TIED CARD OF 'airchecklaw25.PlanLate'. -/
def planLateCard : Claim7 := { stood := { row := planLateRow, standIns := [], harness := (true, "e1be3643b0ea18599b1089eca6ad4d359a2da325996e87dae821b7fe14053fdb"), looks := false }, kinds := [], alts := [], laidByText := true, laidKinds := [.funcs], laidTests := true, laidLooks := .later }
def PlanLateCardSaid : Prop := Claim7.holds Tryd.pinned (.plain (OpenSpec.ofChange planLateSpec)) planLateCard

/-- THE TIED CARD OF 'airchecklaw25.PlanRows'. -/
def planRowsCard : Claim7 := { stood := { row := planRowsRow, standIns := [], harness := (true, "e1be3643b0ea18599b1089eca6ad4d359a2da325996e87dae821b7fe14053fdb"), looks := false }, kinds := [], alts := [], laidByText := true, laidKinds := [.funcs], laidTests := true, laidLooks := .later }
def PlanRowsCardSaid : Prop := Claim7.holds Tryd.pinned (.plain (OpenSpec.ofChange planRowsSpec)) planRowsCard

/-- THE SECOND FORM's CARD OF 'airchecklaw25.PlanBest'. -/
def planBestUptoCard : Claim7 := { stood := { row := planBestUptoRow, standIns := [], harness := (true, "e1be3643b0ea18599b1089eca6ad4d359a2da325996e87dae821b7fe14053fdb"), looks := false }, kinds := [], alts := [], laidByText := true, laidKinds := [.funcs], laidTests := true, laidLooks := .later }
def PlanBestUptoCardSaid : Prop := Claim7.holds Tryd.pinned (.plain (OpenSpec.upto planBestSpec)) planBestUptoCard

/-- THE SECOND FORM's CARD OF 'airchecklaw25.PlanRefused'. -/
def planRefusedUptoCard : Claim7 := { stood := { row := planRefusedUptoRow, standIns := [], harness := (true, "e1be3643b0ea18599b1089eca6ad4d359a2da325996e87dae821b7fe14053fdb"), looks := false }, kinds := [], alts := [], laidByText := true, laidKinds := [.funcs], laidTests := true, laidLooks := .later }
def PlanRefusedUptoCardSaid : Prop := Claim7.holds Tryd.pinned (.plain (OpenSpec.upto planRefusedSpec)) planRefusedUptoCard

/-- THE SECOND FORM's CARD OF 'airchecklaw25.PlanMore'. -/
def planMoreUptoCard : Claim7 := { stood := { row := planMoreUptoRow, standIns := [], harness := (true, "e1be3643b0ea18599b1089eca6ad4d359a2da325996e87dae821b7fe14053fdb"), looks := false }, kinds := [], alts := [], laidByText := true, laidKinds := [.funcs], laidTests := true, laidLooks := .later }
def PlanMoreUptoCardSaid : Prop := Claim7.holds Tryd.pinned (.plain (OpenSpec.upto planMoreSpec)) planMoreUptoCard

/-- THE SECOND FORM's CARD OF 'airchecklaw25.PlanLate'. -/
def planLateUptoCard : Claim7 := { stood := { row := planLateUptoRow, standIns := [], harness := (true, "e1be3643b0ea18599b1089eca6ad4d359a2da325996e87dae821b7fe14053fdb"), looks := false }, kinds := [], alts := [], laidByText := true, laidKinds := [.funcs], laidTests := true, laidLooks := .later }
def PlanLateUptoCardSaid : Prop := Claim7.holds Tryd.pinned (.plain (OpenSpec.upto planLateSpec)) planLateUptoCard

/-- THE SECOND FORM's CARD OF 'airchecklaw25.PlanRows'. -/
def planRowsUptoCard : Claim7 := { stood := { row := planRowsUptoRow, standIns := [], harness := (true, "e1be3643b0ea18599b1089eca6ad4d359a2da325996e87dae821b7fe14053fdb"), looks := false }, kinds := [], alts := [], laidByText := true, laidKinds := [.funcs], laidTests := true, laidLooks := .later }
def PlanRowsUptoCardSaid : Prop := Claim7.holds Tryd.pinned (.plain (OpenSpec.upto planRowsSpec)) planRowsUptoCard
end Rows
end Go.Proofs.YtaaongcfeldcoaaDoor
