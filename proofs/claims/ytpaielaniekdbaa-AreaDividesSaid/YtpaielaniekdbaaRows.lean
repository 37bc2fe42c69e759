/-
  No cell of these rows narrows 'for every input' (looked for: loops, veiled, ifaces, maps, wideKeys, modest, calm, conditions, laid).
  DERIVED. THE GIVEN ROWS OF THIS SEAT. 7 by the template 'for every input the law returns true; each argument reads behind the call as it read before'; 0 by the template 'total and deterministic' (their statements: YtpaielaniekdbaaTotals.lean).
  GIVEN WITH THE SEED: the statements are not yours to turn. If you find one false, say at which input.
  Laid BY PROGRAM, IN A SANDBOX (cutbox-rows.mjs): the forced cells as the released guide's own fill.sh prints them over the translation 76e7e67fc828b4be… (all of the seat's roots in one cut). By AI agents, Wed Nov 11 2026. No macro, syntax, notation, axiom, sorry.
-/
import Derived.Test.YtpaielaniekdbaaChecked
import GoSem.Claim
import GoSem.ClaimJoined
import GoSem.ClaimMapViews
import Derived.JoinedTies
import Derived.KernelRfl
namespace Go.Proofs.Ytpaielaniekdbaa
/- THE CELL 'sum', in the pinned program and in every row, IS THE sha256 OF THE DUMP (.gsa) THAT YtpaielaniekdbaaProg.lean LOADS. Nothing in Lean hashes anything: it is a label: what it is worth is what the hold of that sum in a sandbox is worth. -/
noncomputable def Try.pinned : Pinned := { name := "ytpaielaniekdbaa", sum := "76e7e67fc828b4be897bb5e7d6fc313925556f522fa653ce12110a538251279f", checked := Try.checked }
namespace Rows
def none {H : Type} : Left H := { results := [], args := [] }

/-- 'airchecklaw21.AreaMatchesReference': WHATEVER THE INPUT: true; the input reads as it did. -/
def areaMatchesReferenceSpec : ChangeSpec := { name := "areaMatchesReference", fn := fun _ => fun
  | [d1, d2, d3, d4, d5, d6, d7] => { results := [.lit (.bool true)], args := [d1, d2, d3, d4, d5, d6, d7] }
  | _ => none }
def areaMatchesReferenceRow : OpenClaim := { program := "ytpaielaniekdbaa", sum := "76e7e67fc828b4be897bb5e7d6fc313925556f522fa653ce12110a538251279f", func := "aircheck/airchecklaw21.AreaMatchesReference", spec := "areaMatchesReference", unfollowed := true, recurses := true, apart := false }
def AreaMatchesReferenceSaid : Prop := areaMatchesReferenceRow.holds Try.pinned (OpenSpec.ofChange areaMatchesReferenceSpec)

/-- ITS FALSE NEIGHBOUR: 'it returns false'. Refute it at one input. -/
def areaMatchesReferenceWrong : ChangeSpec := { name := "areaMatchesReference", fn := fun _ => fun
  | [d1, d2, d3, d4, d5, d6, d7] => { results := [.lit (.bool false)], args := [d1, d2, d3, d4, d5, d6, d7] }
  | _ => none }
def AreaMatchesReferenceWrongFalsely : Prop := areaMatchesReferenceRow.holds Try.pinned (OpenSpec.ofChange areaMatchesReferenceWrong)

/-- 'airchecklaw21.AreaDivides': WHATEVER THE INPUT: true; the input reads as it did. -/
def areaDividesSpec : ChangeSpec := { name := "areaDivides", fn := fun _ => fun
  | [d1, d2, d3, d4, d5] => { results := [.lit (.bool true)], args := [d1, d2, d3, d4, d5] }
  | _ => none }
def areaDividesRow : OpenClaim := { program := "ytpaielaniekdbaa", sum := "76e7e67fc828b4be897bb5e7d6fc313925556f522fa653ce12110a538251279f", func := "aircheck/airchecklaw21.AreaDivides", spec := "areaDivides", unfollowed := true, recurses := true, apart := false }
def AreaDividesSaid : Prop := areaDividesRow.holds Try.pinned (OpenSpec.ofChange areaDividesSpec)

/-- ITS FALSE NEIGHBOUR: 'it returns false'. Refute it at one input. -/
def areaDividesWrong : ChangeSpec := { name := "areaDivides", fn := fun _ => fun
  | [d1, d2, d3, d4, d5] => { results := [.lit (.bool false)], args := [d1, d2, d3, d4, d5] }
  | _ => none }
def AreaDividesWrongFalsely : Prop := areaDividesRow.holds Try.pinned (OpenSpec.ofChange areaDividesWrong)

/-- 'airchecklaw21.AreaMoves': WHATEVER THE INPUT: true; the input reads as it did. -/
def areaMovesSpec : ChangeSpec := { name := "areaMoves", fn := fun _ => fun
  | [d1, d2, d3] => { results := [.lit (.bool true)], args := [d1, d2, d3] }
  | _ => none }
def areaMovesRow : OpenClaim := { program := "ytpaielaniekdbaa", sum := "76e7e67fc828b4be897bb5e7d6fc313925556f522fa653ce12110a538251279f", func := "aircheck/airchecklaw21.AreaMoves", spec := "areaMoves", unfollowed := true, recurses := true, apart := false }
def AreaMovesSaid : Prop := areaMovesRow.holds Try.pinned (OpenSpec.ofChange areaMovesSpec)

/-- ITS FALSE NEIGHBOUR: 'it returns false'. Refute it at one input. -/
def areaMovesWrong : ChangeSpec := { name := "areaMoves", fn := fun _ => fun
  | [d1, d2, d3] => { results := [.lit (.bool false)], args := [d1, d2, d3] }
  | _ => none }
def AreaMovesWrongFalsely : Prop := areaMovesRow.holds Try.pinned (OpenSpec.ofChange areaMovesWrong)

/-- 'airchecklaw21.AreaDiscs': WHATEVER THE INPUT: true; the input reads as it did. -/
def areaDiscsSpec : ChangeSpec := { name := "areaDiscs", fn := fun _ => fun
  | [d1, d2, d3, d4, d5] => { results := [.lit (.bool true)], args := [d1, d2, d3, d4, d5] }
  | _ => none }
def areaDiscsRow : OpenClaim := { program := "ytpaielaniekdbaa", sum := "76e7e67fc828b4be897bb5e7d6fc313925556f522fa653ce12110a538251279f", func := "aircheck/airchecklaw21.AreaDiscs", spec := "areaDiscs", unfollowed := true, recurses := true, apart := false }
def AreaDiscsSaid : Prop := areaDiscsRow.holds Try.pinned (OpenSpec.ofChange areaDiscsSpec)

/-- ITS FALSE NEIGHBOUR: 'it returns false'. Refute it at one input. -/
def areaDiscsWrong : ChangeSpec := { name := "areaDiscs", fn := fun _ => fun
  | [d1, d2, d3, d4, d5] => { results := [.lit (.bool false)], args := [d1, d2, d3, d4, d5] }
  | _ => none }
def AreaDiscsWrongFalsely : Prop := areaDiscsRow.holds Try.pinned (OpenSpec.ofChange areaDiscsWrong)

/-- 'airchecklaw21.AreaSets': WHATEVER THE INPUT: true; the input reads as it did. -/
def areaSetsSpec : ChangeSpec := { name := "areaSets", fn := fun _ => fun
  | [d1, d2, d3, d4, d5, d6, d7] => { results := [.lit (.bool true)], args := [d1, d2, d3, d4, d5, d6, d7] }
  | _ => none }
def areaSetsRow : OpenClaim := { program := "ytpaielaniekdbaa", sum := "76e7e67fc828b4be897bb5e7d6fc313925556f522fa653ce12110a538251279f", func := "aircheck/airchecklaw21.AreaSets", spec := "areaSets", unfollowed := true, recurses := true, apart := false }
def AreaSetsSaid : Prop := areaSetsRow.holds Try.pinned (OpenSpec.ofChange areaSetsSpec)

/-- ITS FALSE NEIGHBOUR: 'it returns false'. Refute it at one input. -/
def areaSetsWrong : ChangeSpec := { name := "areaSets", fn := fun _ => fun
  | [d1, d2, d3, d4, d5, d6, d7] => { results := [.lit (.bool false)], args := [d1, d2, d3, d4, d5, d6, d7] }
  | _ => none }
def AreaSetsWrongFalsely : Prop := areaSetsRow.holds Try.pinned (OpenSpec.ofChange areaSetsWrong)

/-- 'airchecklaw21.AreaTurns': WHATEVER THE INPUT: true; the input reads as it did. -/
def areaTurnsSpec : ChangeSpec := { name := "areaTurns", fn := fun _ => fun
  | [d1, d2] => { results := [.lit (.bool true)], args := [d1, d2] }
  | _ => none }
def areaTurnsRow : OpenClaim := { program := "ytpaielaniekdbaa", sum := "76e7e67fc828b4be897bb5e7d6fc313925556f522fa653ce12110a538251279f", func := "aircheck/airchecklaw21.AreaTurns", spec := "areaTurns", unfollowed := true, recurses := true, apart := false }
def AreaTurnsSaid : Prop := areaTurnsRow.holds Try.pinned (OpenSpec.ofChange areaTurnsSpec)

/-- ITS FALSE NEIGHBOUR: 'it returns false'. Refute it at one input. -/
def areaTurnsWrong : ChangeSpec := { name := "areaTurns", fn := fun _ => fun
  | [d1, d2] => { results := [.lit (.bool false)], args := [d1, d2] }
  | _ => none }
def AreaTurnsWrongFalsely : Prop := areaTurnsRow.holds Try.pinned (OpenSpec.ofChange areaTurnsWrong)

/-- 'airchecklaw21.AreaBoxes': WHATEVER THE INPUT: true; the input reads as it did. -/
def areaBoxesSpec : ChangeSpec := { name := "areaBoxes", fn := fun _ => fun
  | [d1, d2, d3] => { results := [.lit (.bool true)], args := [d1, d2, d3] }
  | _ => none }
def areaBoxesRow : OpenClaim := { program := "ytpaielaniekdbaa", sum := "76e7e67fc828b4be897bb5e7d6fc313925556f522fa653ce12110a538251279f", func := "aircheck/airchecklaw21.AreaBoxes", spec := "areaBoxes", unfollowed := true, recurses := true, apart := false }
def AreaBoxesSaid : Prop := areaBoxesRow.holds Try.pinned (OpenSpec.ofChange areaBoxesSpec)

/-- ITS FALSE NEIGHBOUR: 'it returns false'. Refute it at one input. -/
def areaBoxesWrong : ChangeSpec := { name := "areaBoxes", fn := fun _ => fun
  | [d1, d2, d3] => { results := [.lit (.bool false)], args := [d1, d2, d3] }
  | _ => none }
def AreaBoxesWrongFalsely : Prop := areaBoxesRow.holds Try.pinned (OpenSpec.ofChange areaBoxesWrong)

/- THE SECOND FORM. 'bulk': how many values and letters a reading holds, each counted each time it is reached (what is shared counts as often as it is met; a slice's spare places count too). A statement '..UptoSaid' is the law's where the arguments, and the package variables that the reading takes, are together of bulk at most 1048576: NARROWER than '..Said'. Prove '..Said' where nothing that the law and all that it calls make is longer than what came in: it says more and counts as full. Else prove '..UptoSaid'. A law counts once. -/
mutual
def uptoBulk {H : Type} : DataW H → Nat
  | .lit (.string bytes) => bytes.length + 1
  | .lit _ => 1
  | .nil => 1
  | .ptr d => uptoBulk d + 1
  | .slice elems spare => uptoBulkAll elems + uptoBulkAll spare + 1
  | .agg parts => uptoBulkAll parts + 1
  | .iface _ d => uptoBulk d + 1
  | .map entries => uptoBulkEntries entries + 1
  | .held _ => 1
def uptoBulkAll {H : Type} : List (DataW H) → Nat
  | [] => 0
  | d :: r => uptoBulk d + uptoBulkAll r
def uptoBulkEntries {H : Type} : List (Lit × DataW H) → Nat
  | [] => 0
  | x :: r => uptoBulkEntry x + uptoBulkEntries r
def uptoBulkEntry {H : Type} : Lit × DataW H → Nat
  | (.string bytes, d) => bytes.length + uptoBulk d + 1
  | (_, d) => uptoBulk d + 1
 end
def uptoSmall : (H : Type) → List (DataW H) → Bool := fun _ ds => decide (uptoBulkAll ds ≤ 1048576)
def OpenSpec.upto (s : _root_.Go.ChangeSpec) : _root_.Go.OpenSpec := { _root_.Go.OpenSpec.ofChange s with cond := some uptoSmall }

/-- 'airchecklaw21.AreaMatchesReference', WHERE WHAT IT READS IS OF BULK AT MOST 1048576: true; the input reads as it did. -/
def areaMatchesReferenceUptoRow : OpenClaim := { program := "ytpaielaniekdbaa", sum := "76e7e67fc828b4be897bb5e7d6fc313925556f522fa653ce12110a538251279f", func := "aircheck/airchecklaw21.AreaMatchesReference", spec := "areaMatchesReference", unfollowed := true, recurses := true, apart := false, narrowed := true }
def AreaMatchesReferenceUptoSaid : Prop := areaMatchesReferenceUptoRow.holds Try.pinned (OpenSpec.upto areaMatchesReferenceSpec)

/-- 'airchecklaw21.AreaDivides', WHERE WHAT IT READS IS OF BULK AT MOST 1048576: true; the input reads as it did. -/
def areaDividesUptoRow : OpenClaim := { program := "ytpaielaniekdbaa", sum := "76e7e67fc828b4be897bb5e7d6fc313925556f522fa653ce12110a538251279f", func := "aircheck/airchecklaw21.AreaDivides", spec := "areaDivides", unfollowed := true, recurses := true, apart := false, narrowed := true }
def AreaDividesUptoSaid : Prop := areaDividesUptoRow.holds Try.pinned (OpenSpec.upto areaDividesSpec)

/-- 'airchecklaw21.AreaMoves', WHERE WHAT IT READS IS OF BULK AT MOST 1048576: true; the input reads as it did. -/
def areaMovesUptoRow : OpenClaim := { program := "ytpaielaniekdbaa", sum := "76e7e67fc828b4be897bb5e7d6fc313925556f522fa653ce12110a538251279f", func := "aircheck/airchecklaw21.AreaMoves", spec := "areaMoves", unfollowed := true, recurses := true, apart := false, narrowed := true }
def AreaMovesUptoSaid : Prop := areaMovesUptoRow.holds Try.pinned (OpenSpec.upto areaMovesSpec)

/-- 'airchecklaw21.AreaDiscs', WHERE WHAT IT READS IS OF BULK AT MOST 1048576: true; the input reads as it did. -/
def areaDiscsUptoRow : OpenClaim := { program := "ytpaielaniekdbaa", sum := "76e7e67fc828b4be897bb5e7d6fc313925556f522fa653ce12110a538251279f", func := "aircheck/airchecklaw21.AreaDiscs", spec := "areaDiscs", unfollowed := true, recurses := true, apart := false, narrowed := true }
def AreaDiscsUptoSaid : Prop := areaDiscsUptoRow.holds Try.pinned (OpenSpec.upto areaDiscsSpec)

/-- 'airchecklaw21.AreaSets', WHERE WHAT IT READS IS OF BULK AT MOST 1048576: true; the input reads as it did. -/
def areaSetsUptoRow : OpenClaim := { program := "ytpaielaniekdbaa", sum := "76e7e67fc828b4be897bb5e7d6fc313925556f522fa653ce12110a538251279f", func := "aircheck/airchecklaw21.AreaSets", spec := "areaSets", unfollowed := true, recurses := true, apart := false, narrowed := true }
def AreaSetsUptoSaid : Prop := areaSetsUptoRow.holds Try.pinned (OpenSpec.upto areaSetsSpec)

/-- 'airchecklaw21.AreaTurns', WHERE WHAT IT READS IS OF BULK AT MOST 1048576: true; the input reads as it did. -/
def areaTurnsUptoRow : OpenClaim := { program := "ytpaielaniekdbaa", sum := "76e7e67fc828b4be897bb5e7d6fc313925556f522fa653ce12110a538251279f", func := "aircheck/airchecklaw21.AreaTurns", spec := "areaTurns", unfollowed := true, recurses := true, apart := false, narrowed := true }
def AreaTurnsUptoSaid : Prop := areaTurnsUptoRow.holds Try.pinned (OpenSpec.upto areaTurnsSpec)

/-- 'airchecklaw21.AreaBoxes', WHERE WHAT IT READS IS OF BULK AT MOST 1048576: true; the input reads as it did. -/
def areaBoxesUptoRow : OpenClaim := { program := "ytpaielaniekdbaa", sum := "76e7e67fc828b4be897bb5e7d6fc313925556f522fa653ce12110a538251279f", func := "aircheck/airchecklaw21.AreaBoxes", spec := "areaBoxes", unfollowed := true, recurses := true, apart := false, narrowed := true }
def AreaBoxesUptoSaid : Prop := areaBoxesUptoRow.holds Try.pinned (OpenSpec.upto areaBoxesSpec)

end Rows
end Go.Proofs.Ytpaielaniekdbaa
