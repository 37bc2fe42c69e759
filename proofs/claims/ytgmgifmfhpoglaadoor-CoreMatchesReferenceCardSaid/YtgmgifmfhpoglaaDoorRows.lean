/-
  NARROWER THAN 'FOR EVERY INPUT', by the rows' own cells (each row's printed sentence says how): CoreMatchesReference: laid · CoreShrinks: laid · CoreHits: laid · CoreGrows: laid · CoreLeast: laid · CoreRepairs: laid.
  DERIVED. THE GIVEN ROWS OF THIS SEAT. 6 by the template 'for every input the law returns true; each argument reads behind the call as it read before'; 0 by the template 'total and deterministic' (their statements: YtgmgifmfhpoglaaDoorTotals.lean).
  GIVEN WITH THE SEED: the statements are not yours to turn. If you find one false, say at which input.
  Laid BY PROGRAM, IN A SANDBOX (cutbox-rows.mjs): the forced cells as the released guide's own fill.sh prints them over the translation 2f4044a0d76c39be… (all of the seat's roots in one cut). By AI agents, Wed Nov 11 2026. No macro, syntax, notation, axiom, sorry.
-/
import Derived.Test.YtgmgifmfhpoglaaDoorChecked
import GoSem.Claim
import GoSem.ClaimJoined
import GoSem.ClaimMapViews
import Derived.JoinedTies
import Derived.KernelRfl
namespace Go.Proofs.YtgmgifmfhpoglaaDoor
/- THE CELL 'sum', in the pinned program and in every row, IS THE sha256 OF THE DUMP (.gsa) THAT YtgmgifmfhpoglaaDoorProg.lean LOADS. Nothing in Lean hashes anything: it is a label: what it is worth is what the hold of that sum in a sandbox is worth. -/
noncomputable def Tryd.pinned : Pinned := { name := "ytgmgifmfhpoglaadoor", sum := "2f4044a0d76c39bec718518366c9cce4f77d70aca6dbb4d847900e68b09a3ea8", checked := Tryd.checked }
namespace Rows
def none {H : Type} : Left H := { results := [], args := [] }

/- WHAT THE LISTED PACKAGE-LEVEL VARIABLES READ AS WHEN THE CALL BEGINS. Each datum BY PROGRAM (the guide's laid-datum.mjs) off the statement by which the dump's own 'gosem.cut.vars' lays the variable. In a bare row this is a premise. The card (YtgmgifmfhpoglaaDoorCards.lean) ties it to the program's text. -/
def laid_math_bits_deBruijn32tab {H : Type} : DataW H := .agg [.lit (.int .u8 0), .lit (.int .u8 1), .lit (.int .u8 28), .lit (.int .u8 2), .lit (.int .u8 29), .lit (.int .u8 14), .lit (.int .u8 24), .lit (.int .u8 3), .lit (.int .u8 30), .lit (.int .u8 22), .lit (.int .u8 20), .lit (.int .u8 15), .lit (.int .u8 25), .lit (.int .u8 17), .lit (.int .u8 4), .lit (.int .u8 8), .lit (.int .u8 31), .lit (.int .u8 27), .lit (.int .u8 13), .lit (.int .u8 23), .lit (.int .u8 21), .lit (.int .u8 19), .lit (.int .u8 16), .lit (.int .u8 7), .lit (.int .u8 26), .lit (.int .u8 12), .lit (.int .u8 18), .lit (.int .u8 6), .lit (.int .u8 11), .lit (.int .u8 5), .lit (.int .u8 10), .lit (.int .u8 9)]
def laid_math_bits_deBruijn64tab {H : Type} : DataW H := .agg [.lit (.int .u8 0), .lit (.int .u8 1), .lit (.int .u8 56), .lit (.int .u8 2), .lit (.int .u8 57), .lit (.int .u8 49), .lit (.int .u8 28), .lit (.int .u8 3), .lit (.int .u8 61), .lit (.int .u8 58), .lit (.int .u8 42), .lit (.int .u8 50), .lit (.int .u8 38), .lit (.int .u8 29), .lit (.int .u8 17), .lit (.int .u8 4), .lit (.int .u8 62), .lit (.int .u8 47), .lit (.int .u8 59), .lit (.int .u8 36), .lit (.int .u8 45), .lit (.int .u8 43), .lit (.int .u8 51), .lit (.int .u8 22), .lit (.int .u8 53), .lit (.int .u8 39), .lit (.int .u8 33), .lit (.int .u8 30), .lit (.int .u8 24), .lit (.int .u8 18), .lit (.int .u8 12), .lit (.int .u8 5), .lit (.int .u8 63), .lit (.int .u8 55), .lit (.int .u8 48), .lit (.int .u8 27), .lit (.int .u8 60), .lit (.int .u8 41), .lit (.int .u8 37), .lit (.int .u8 16), .lit (.int .u8 46), .lit (.int .u8 35), .lit (.int .u8 44), .lit (.int .u8 21), .lit (.int .u8 52), .lit (.int .u8 32), .lit (.int .u8 23), .lit (.int .u8 11), .lit (.int .u8 54), .lit (.int .u8 26), .lit (.int .u8 40), .lit (.int .u8 15), .lit (.int .u8 34), .lit (.int .u8 20), .lit (.int .u8 31), .lit (.int .u8 10), .lit (.int .u8 25), .lit (.int .u8 14), .lit (.int .u8 19), .lit (.int .u8 9), .lit (.int .u8 13), .lit (.int .u8 8), .lit (.int .u8 7), .lit (.int .u8 6)]

/-- 'airchecklaw27.CoreMatchesReference': WHATEVER THE INPUT: true; the input reads as it did. -/
def coreMatchesReferenceSpec : ChangeSpec := { name := "coreMatchesReference", fn := fun _ => fun
  | [d1, d2, d3, d4, d5, d6] => { results := [.lit (.bool true)], args := [d1, d2, d3, d4, d5, d6] }
  | _ => none }
def coreMatchesReferenceRow : OpenClaim := { program := "ytgmgifmfhpoglaadoor", sum := "2f4044a0d76c39bec718518366c9cce4f77d70aca6dbb4d847900e68b09a3ea8", func := "aircheck/airchecklaw27.CoreMatchesReference", spec := "coreMatchesReference", unfollowed := true, recurses := true, named := ["math/bits.deBruijn32tab", "math/bits.deBruijn64tab"], apart := false, laid := [("math/bits.deBruijn32tab", laid_math_bits_deBruijn32tab), ("math/bits.deBruijn64tab", laid_math_bits_deBruijn64tab)] }
def CoreMatchesReferenceSaid : Prop := coreMatchesReferenceRow.holds Tryd.pinned (OpenSpec.ofChange coreMatchesReferenceSpec)

/-- ITS FALSE NEIGHBOUR: 'it returns false'. Refute it at one input. -/
def coreMatchesReferenceWrong : ChangeSpec := { name := "coreMatchesReference", fn := fun _ => fun
  | [d1, d2, d3, d4, d5, d6] => { results := [.lit (.bool false)], args := [d1, d2, d3, d4, d5, d6] }
  | _ => none }
def CoreMatchesReferenceWrongFalsely : Prop := coreMatchesReferenceRow.holds Tryd.pinned (OpenSpec.ofChange coreMatchesReferenceWrong)

/-- 'airchecklaw27.CoreShrinks': WHATEVER THE INPUT: true; the input reads as it did. -/
def coreShrinksSpec : ChangeSpec := { name := "coreShrinks", fn := fun _ => fun
  | [d1, d2, d3, d4, d5] => { results := [.lit (.bool true)], args := [d1, d2, d3, d4, d5] }
  | _ => none }
def coreShrinksRow : OpenClaim := { program := "ytgmgifmfhpoglaadoor", sum := "2f4044a0d76c39bec718518366c9cce4f77d70aca6dbb4d847900e68b09a3ea8", func := "aircheck/airchecklaw27.CoreShrinks", spec := "coreShrinks", unfollowed := true, recurses := true, named := ["math/bits.deBruijn32tab", "math/bits.deBruijn64tab"], apart := false, laid := [("math/bits.deBruijn32tab", laid_math_bits_deBruijn32tab), ("math/bits.deBruijn64tab", laid_math_bits_deBruijn64tab)] }
def CoreShrinksSaid : Prop := coreShrinksRow.holds Tryd.pinned (OpenSpec.ofChange coreShrinksSpec)

/-- ITS FALSE NEIGHBOUR: 'it returns false'. Refute it at one input. -/
def coreShrinksWrong : ChangeSpec := { name := "coreShrinks", fn := fun _ => fun
  | [d1, d2, d3, d4, d5] => { results := [.lit (.bool false)], args := [d1, d2, d3, d4, d5] }
  | _ => none }
def CoreShrinksWrongFalsely : Prop := coreShrinksRow.holds Tryd.pinned (OpenSpec.ofChange coreShrinksWrong)

/-- 'airchecklaw27.CoreHits': WHATEVER THE INPUT: true; the input reads as it did. -/
def coreHitsSpec : ChangeSpec := { name := "coreHits", fn := fun _ => fun
  | [d1, d2, d3, d4, d5] => { results := [.lit (.bool true)], args := [d1, d2, d3, d4, d5] }
  | _ => none }
def coreHitsRow : OpenClaim := { program := "ytgmgifmfhpoglaadoor", sum := "2f4044a0d76c39bec718518366c9cce4f77d70aca6dbb4d847900e68b09a3ea8", func := "aircheck/airchecklaw27.CoreHits", spec := "coreHits", unfollowed := true, recurses := true, named := ["math/bits.deBruijn32tab", "math/bits.deBruijn64tab"], apart := false, laid := [("math/bits.deBruijn32tab", laid_math_bits_deBruijn32tab), ("math/bits.deBruijn64tab", laid_math_bits_deBruijn64tab)] }
def CoreHitsSaid : Prop := coreHitsRow.holds Tryd.pinned (OpenSpec.ofChange coreHitsSpec)

/-- ITS FALSE NEIGHBOUR: 'it returns false'. Refute it at one input. -/
def coreHitsWrong : ChangeSpec := { name := "coreHits", fn := fun _ => fun
  | [d1, d2, d3, d4, d5] => { results := [.lit (.bool false)], args := [d1, d2, d3, d4, d5] }
  | _ => none }
def CoreHitsWrongFalsely : Prop := coreHitsRow.holds Tryd.pinned (OpenSpec.ofChange coreHitsWrong)

/-- 'airchecklaw27.CoreGrows': WHATEVER THE INPUT: true; the input reads as it did. -/
def coreGrowsSpec : ChangeSpec := { name := "coreGrows", fn := fun _ => fun
  | [d1, d2, d3, d4] => { results := [.lit (.bool true)], args := [d1, d2, d3, d4] }
  | _ => none }
def coreGrowsRow : OpenClaim := { program := "ytgmgifmfhpoglaadoor", sum := "2f4044a0d76c39bec718518366c9cce4f77d70aca6dbb4d847900e68b09a3ea8", func := "aircheck/airchecklaw27.CoreGrows", spec := "coreGrows", unfollowed := true, recurses := true, named := ["math/bits.deBruijn32tab", "math/bits.deBruijn64tab"], apart := false, laid := [("math/bits.deBruijn32tab", laid_math_bits_deBruijn32tab), ("math/bits.deBruijn64tab", laid_math_bits_deBruijn64tab)] }
def CoreGrowsSaid : Prop := coreGrowsRow.holds Tryd.pinned (OpenSpec.ofChange coreGrowsSpec)

/-- ITS FALSE NEIGHBOUR: 'it returns false'. Refute it at one input. -/
def coreGrowsWrong : ChangeSpec := { name := "coreGrows", fn := fun _ => fun
  | [d1, d2, d3, d4] => { results := [.lit (.bool false)], args := [d1, d2, d3, d4] }
  | _ => none }
def CoreGrowsWrongFalsely : Prop := coreGrowsRow.holds Tryd.pinned (OpenSpec.ofChange coreGrowsWrong)

/-- 'airchecklaw27.CoreLeast': WHATEVER THE INPUT: true; the input reads as it did. -/
def coreLeastSpec : ChangeSpec := { name := "coreLeast", fn := fun _ => fun
  | [d1, d2, d3, d4] => { results := [.lit (.bool true)], args := [d1, d2, d3, d4] }
  | _ => none }
def coreLeastRow : OpenClaim := { program := "ytgmgifmfhpoglaadoor", sum := "2f4044a0d76c39bec718518366c9cce4f77d70aca6dbb4d847900e68b09a3ea8", func := "aircheck/airchecklaw27.CoreLeast", spec := "coreLeast", unfollowed := true, recurses := true, named := ["math/bits.deBruijn32tab", "math/bits.deBruijn64tab"], apart := false, laid := [("math/bits.deBruijn32tab", laid_math_bits_deBruijn32tab), ("math/bits.deBruijn64tab", laid_math_bits_deBruijn64tab)] }
def CoreLeastSaid : Prop := coreLeastRow.holds Tryd.pinned (OpenSpec.ofChange coreLeastSpec)

/-- ITS FALSE NEIGHBOUR: 'it returns false'. Refute it at one input. -/
def coreLeastWrong : ChangeSpec := { name := "coreLeast", fn := fun _ => fun
  | [d1, d2, d3, d4] => { results := [.lit (.bool false)], args := [d1, d2, d3, d4] }
  | _ => none }
def CoreLeastWrongFalsely : Prop := coreLeastRow.holds Tryd.pinned (OpenSpec.ofChange coreLeastWrong)

/-- 'airchecklaw27.CoreRepairs': WHATEVER THE INPUT: true; the input reads as it did. -/
def coreRepairsSpec : ChangeSpec := { name := "coreRepairs", fn := fun _ => fun
  | [d1, d2, d3, d4] => { results := [.lit (.bool true)], args := [d1, d2, d3, d4] }
  | _ => none }
def coreRepairsRow : OpenClaim := { program := "ytgmgifmfhpoglaadoor", sum := "2f4044a0d76c39bec718518366c9cce4f77d70aca6dbb4d847900e68b09a3ea8", func := "aircheck/airchecklaw27.CoreRepairs", spec := "coreRepairs", unfollowed := true, recurses := true, named := ["math/bits.deBruijn32tab", "math/bits.deBruijn64tab"], apart := false, laid := [("math/bits.deBruijn32tab", laid_math_bits_deBruijn32tab), ("math/bits.deBruijn64tab", laid_math_bits_deBruijn64tab)] }
def CoreRepairsSaid : Prop := coreRepairsRow.holds Tryd.pinned (OpenSpec.ofChange coreRepairsSpec)

/-- ITS FALSE NEIGHBOUR: 'it returns false'. Refute it at one input. -/
def coreRepairsWrong : ChangeSpec := { name := "coreRepairs", fn := fun _ => fun
  | [d1, d2, d3, d4] => { results := [.lit (.bool false)], args := [d1, d2, d3, d4] }
  | _ => none }
def CoreRepairsWrongFalsely : Prop := coreRepairsRow.holds Tryd.pinned (OpenSpec.ofChange coreRepairsWrong)

/- THE SECOND FORM. 'bulk': how many values and letters a reading holds, each counted each time it is reached (what is shared counts as often as it is met; a slice's spare places count too). A statement '..UptoSaid' is the law's where the arguments, and the package variables that the reading takes, are together of bulk at most 1048576: NARROWER than '..Said'. Prove '..Said' where nothing that the law and all that it calls make is longer than what came in: it says more and counts as full. Else prove '..UptoSaid'. A law counts once. -/
mutual
def uptoBulk {H : Type} : DataW H → Nat
  | .lit (.string bytes) => bytes.length + 1
  | .lit _ => 1
  | .nil => 1
  | .ptr d => uptoBulk d + 1
  | .slice elems spare => uptoBulkAll elems + uptoBulkAll spare + 1
  | .agg parts => uptoBulkAll parts + 1
  | .iface _ d => uptoBulk d + 1
  | .map entries => uptoBulkEntries entries + 1
  | .held _ => 1
def uptoBulkAll {H : Type} : List (DataW H) → Nat
  | [] => 0
  | d :: r => uptoBulk d + uptoBulkAll r
def uptoBulkEntries {H : Type} : List (Lit × DataW H) → Nat
  | [] => 0
  | x :: r => uptoBulkEntry x + uptoBulkEntries r
def uptoBulkEntry {H : Type} : Lit × DataW H → Nat
  | (.string bytes, d) => bytes.length + uptoBulk d + 1
  | (_, d) => uptoBulk d + 1
 end
def uptoSmall : (H : Type) → List (DataW H) → Bool := fun _ ds => decide (uptoBulkAll ds ≤ 1048576)
def OpenSpec.upto (s : _root_.Go.ChangeSpec) : _root_.Go.OpenSpec := { _root_.Go.OpenSpec.ofChange s with cond := some uptoSmall }

/-- 'airchecklaw27.CoreMatchesReference', WHERE WHAT IT READS IS OF BULK AT MOST 1048576: true; the input reads as it did. -/
def coreMatchesReferenceUptoRow : OpenClaim := { program := "ytgmgifmfhpoglaadoor", sum := "2f4044a0d76c39bec718518366c9cce4f77d70aca6dbb4d847900e68b09a3ea8", func := "aircheck/airchecklaw27.CoreMatchesReference", spec := "coreMatchesReference", unfollowed := true, recurses := true, named := ["math/bits.deBruijn32tab", "math/bits.deBruijn64tab"], apart := false, laid := [("math/bits.deBruijn32tab", laid_math_bits_deBruijn32tab), ("math/bits.deBruijn64tab", laid_math_bits_deBruijn64tab)], narrowed := true }
def CoreMatchesReferenceUptoSaid : Prop := coreMatchesReferenceUptoRow.holds Tryd.pinned (OpenSpec.upto coreMatchesReferenceSpec)

/-- 'airchecklaw27.CoreShrinks', WHERE WHAT IT READS IS OF BULK AT MOST 1048576: true; the input reads as it did. -/
def coreShrinksUptoRow : OpenClaim := { program := "ytgmgifmfhpoglaadoor", sum := "2f4044a0d76c39bec718518366c9cce4f77d70aca6dbb4d847900e68b09a3ea8", func := "aircheck/airchecklaw27.CoreShrinks", spec := "coreShrinks", unfollowed := true, recurses := true, named := ["math/bits.deBruijn32tab", "math/bits.deBruijn64tab"], apart := false, laid := [("math/bits.deBruijn32tab", laid_math_bits_deBruijn32tab), ("math/bits.deBruijn64tab", laid_math_bits_deBruijn64tab)], narrowed := true }
def CoreShrinksUptoSaid : Prop := coreShrinksUptoRow.holds Tryd.pinned (OpenSpec.upto coreShrinksSpec)

/-- 'airchecklaw27.CoreHits', WHERE WHAT IT READS IS OF BULK AT MOST 1048576: true; the input reads as it did. -/
def coreHitsUptoRow : OpenClaim := { program := "ytgmgifmfhpoglaadoor", sum := "2f4044a0d76c39bec718518366c9cce4f77d70aca6dbb4d847900e68b09a3ea8", func := "aircheck/airchecklaw27.CoreHits", spec := "coreHits", unfollowed := true, recurses := true, named := ["math/bits.deBruijn32tab", "math/bits.deBruijn64tab"], apart := false, laid := [("math/bits.deBruijn32tab", laid_math_bits_deBruijn32tab), ("math/bits.deBruijn64tab", laid_math_bits_deBruijn64tab)], narrowed := true }
def CoreHitsUptoSaid : Prop := coreHitsUptoRow.holds Tryd.pinned (OpenSpec.upto coreHitsSpec)

/-- 'airchecklaw27.CoreGrows', WHERE WHAT IT READS IS OF BULK AT MOST 1048576: true; the input reads as it did. -/
def coreGrowsUptoRow : OpenClaim := { program := "ytgmgifmfhpoglaadoor", sum := "2f4044a0d76c39bec718518366c9cce4f77d70aca6dbb4d847900e68b09a3ea8", func := "aircheck/airchecklaw27.CoreGrows", spec := "coreGrows", unfollowed := true, recurses := true, named := ["math/bits.deBruijn32tab", "math/bits.deBruijn64tab"], apart := false, laid := [("math/bits.deBruijn32tab", laid_math_bits_deBruijn32tab), ("math/bits.deBruijn64tab", laid_math_bits_deBruijn64tab)], narrowed := true }
def CoreGrowsUptoSaid : Prop := coreGrowsUptoRow.holds Tryd.pinned (OpenSpec.upto coreGrowsSpec)

/-- 'airchecklaw27.CoreLeast', WHERE WHAT IT READS IS OF BULK AT MOST 1048576: true; the input reads as it did. -/
def coreLeastUptoRow : OpenClaim := { program := "ytgmgifmfhpoglaadoor", sum := "2f4044a0d76c39bec718518366c9cce4f77d70aca6dbb4d847900e68b09a3ea8", func := "aircheck/airchecklaw27.CoreLeast", spec := "coreLeast", unfollowed := true, recurses := true, named := ["math/bits.deBruijn32tab", "math/bits.deBruijn64tab"], apart := false, laid := [("math/bits.deBruijn32tab", laid_math_bits_deBruijn32tab), ("math/bits.deBruijn64tab", laid_math_bits_deBruijn64tab)], narrowed := true }
def CoreLeastUptoSaid : Prop := coreLeastUptoRow.holds Tryd.pinned (OpenSpec.upto coreLeastSpec)

/-- 'airchecklaw27.CoreRepairs', WHERE WHAT IT READS IS OF BULK AT MOST 1048576: true; the input reads as it did. -/
def coreRepairsUptoRow : OpenClaim := { program := "ytgmgifmfhpoglaadoor", sum := "2f4044a0d76c39bec718518366c9cce4f77d70aca6dbb4d847900e68b09a3ea8", func := "aircheck/airchecklaw27.CoreRepairs", spec := "coreRepairs", unfollowed := true, recurses := true, named := ["math/bits.deBruijn32tab", "math/bits.deBruijn64tab"], apart := false, laid := [("math/bits.deBruijn32tab", laid_math_bits_deBruijn32tab), ("math/bits.deBruijn64tab", laid_math_bits_deBruijn64tab)], narrowed := true }
def CoreRepairsUptoSaid : Prop := coreRepairsUptoRow.holds Tryd.pinned (OpenSpec.upto coreRepairsSpec)

end Rows
end Go.Proofs.YtgmgifmfhpoglaaDoor
