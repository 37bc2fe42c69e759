/-
  NARROWER THAN 'FOR EVERY INPUT', by the rows' own cells (each row's printed sentence says how): PlanBest: laid · PlanRefused: laid · PlanMore: laid · PlanLate: laid · PlanRows: laid.
  DERIVED. THE GIVEN ROWS OF THIS SEAT. 5 by the template 'for every input the law returns true; each argument reads behind the call as it read before'; 0 by the template 'total and deterministic' (their statements: YtaaongcfeldcoaaDoorTotals.lean).
  GIVEN WITH THE SEED: the statements are not yours to turn. If you find one false, say at which input.
  Laid BY PROGRAM, IN A SANDBOX (cutbox-rows.mjs): the forced cells as the released guide's own fill.sh prints them over the translation f70b86af5a1526b7… (all of the seat's roots in one cut). By AI agents, Wed Nov 11 2026. No macro, syntax, notation, axiom, sorry.
-/
import Derived.Test.YtaaongcfeldcoaaDoorChecked
import GoSem.Claim
import GoSem.ClaimJoined
import GoSem.ClaimMapViews
import Derived.JoinedTies
import Derived.KernelRfl
namespace Go.Proofs.YtaaongcfeldcoaaDoor
/- THE CELL 'sum', in the pinned program and in every row, IS THE sha256 OF THE DUMP (.gsa) THAT YtaaongcfeldcoaaDoorProg.lean LOADS. Nothing in Lean hashes anything: it is a label: what it is worth is what the hold of that sum in a sandbox is worth. -/
noncomputable def Tryd.pinned : Pinned := { name := "ytaaongcfeldcoaadoor", sum := "f70b86af5a1526b70d865cb89cd08999c761dddd2a399de97e63acbdb605247c", checked := Tryd.checked }
namespace Rows
def none {H : Type} : Left H := { results := [], args := [] }

/- WHAT THE LISTED PACKAGE-LEVEL VARIABLES READ AS WHEN THE CALL BEGINS. Each datum BY PROGRAM (the guide's laid-datum.mjs) off the statement by which the dump's own 'gosem.cut.vars' lays the variable. In a bare row this is a premise. The card (YtaaongcfeldcoaaDoorCards.lean) ties it to the program's text. -/
def laid_aircheck_plan_conditions {H : Type} : DataW H := .iface "func table" (.agg [.agg [.iface "func" (.lit (.string [97, 105, 114, 99, 104, 101, 99, 107, 47, 112, 108, 97, 110, 46, 99, 111, 110, 100, 105, 116, 105, 111, 110, 115, 36, 49]))], .agg [.iface "func" (.lit (.string [97, 105, 114, 99, 104, 101, 99, 107, 47, 112, 108, 97, 110, 46, 99, 111, 110, 100, 105, 116, 105, 111, 110, 115, 36, 50]))], .agg [.iface "func" (.lit (.string [97, 105, 114, 99, 104, 101, 99, 107, 47, 112, 108, 97, 110, 46, 99, 111, 110, 100, 105, 116, 105, 111, 110, 115, 36, 51]))], .agg [.iface "func" (.lit (.string [97, 105, 114, 99, 104, 101, 99, 107, 47, 112, 108, 97, 110, 46, 99, 111, 110, 100, 105, 116, 105, 111, 110, 115, 36, 52]))]])

/-- 'airchecklaw25.PlanBest': WHATEVER THE INPUT: true; the input reads as it did. -/
def planBestSpec : ChangeSpec := { name := "planBest", fn := fun _ => fun
  | [d1, d2] => { results := [.lit (.bool true)], args := [d1, d2] }
  | _ => none }
def planBestRow : OpenClaim := { program := "ytaaongcfeldcoaadoor", sum := "f70b86af5a1526b70d865cb89cd08999c761dddd2a399de97e63acbdb605247c", func := "aircheck/airchecklaw25.PlanBest", spec := "planBest", unfollowed := true, recurses := true, named := ["aircheck/plan.conditions"], apart := false, laid := [("aircheck/plan.conditions", laid_aircheck_plan_conditions)] }
def PlanBestSaid : Prop := planBestRow.holds Tryd.pinned (OpenSpec.ofChange planBestSpec)

/-- ITS FALSE NEIGHBOUR: 'it returns false'. Refute it at one input. -/
def planBestWrong : ChangeSpec := { name := "planBest", fn := fun _ => fun
  | [d1, d2] => { results := [.lit (.bool false)], args := [d1, d2] }
  | _ => none }
def PlanBestWrongFalsely : Prop := planBestRow.holds Tryd.pinned (OpenSpec.ofChange planBestWrong)

/-- 'airchecklaw25.PlanRefused': WHATEVER THE INPUT: true; the input reads as it did. -/
def planRefusedSpec : ChangeSpec := { name := "planRefused", fn := fun _ => fun
  | [d1, d2, d3] => { results := [.lit (.bool true)], args := [d1, d2, d3] }
  | _ => none }
def planRefusedRow : OpenClaim := { program := "ytaaongcfeldcoaadoor", sum := "f70b86af5a1526b70d865cb89cd08999c761dddd2a399de97e63acbdb605247c", func := "aircheck/airchecklaw25.PlanRefused", spec := "planRefused", unfollowed := true, recurses := true, named := ["aircheck/plan.conditions"], apart := false, laid := [("aircheck/plan.conditions", laid_aircheck_plan_conditions)] }
def PlanRefusedSaid : Prop := planRefusedRow.holds Tryd.pinned (OpenSpec.ofChange planRefusedSpec)

/-- ITS FALSE NEIGHBOUR: 'it returns false'. Refute it at one input. -/
def planRefusedWrong : ChangeSpec := { name := "planRefused", fn := fun _ => fun
  | [d1, d2, d3] => { results := [.lit (.bool false)], args := [d1, d2, d3] }
  | _ => none }
def PlanRefusedWrongFalsely : Prop := planRefusedRow.holds Tryd.pinned (OpenSpec.ofChange planRefusedWrong)

/-- 'airchecklaw25.PlanMore': WHATEVER THE INPUT: true; the input reads as it did. -/
def planMoreSpec : ChangeSpec := { name := "planMore", fn := fun _ => fun
  | [d1, d2, d3, d4] => { results := [.lit (.bool true)], args := [d1, d2, d3, d4] }
  | _ => none }
def planMoreRow : OpenClaim := { program := "ytaaongcfeldcoaadoor", sum := "f70b86af5a1526b70d865cb89cd08999c761dddd2a399de97e63acbdb605247c", func := "aircheck/airchecklaw25.PlanMore", spec := "planMore", unfollowed := true, recurses := true, named := ["aircheck/plan.conditions"], apart := false, laid := [("aircheck/plan.conditions", laid_aircheck_plan_conditions)] }
def PlanMoreSaid : Prop := planMoreRow.holds Tryd.pinned (OpenSpec.ofChange planMoreSpec)

/-- ITS FALSE NEIGHBOUR: 'it returns false'. Refute it at one input. -/
def planMoreWrong : ChangeSpec := { name := "planMore", fn := fun _ => fun
  | [d1, d2, d3, d4] => { results := [.lit (.bool false)], args := [d1, d2, d3, d4] }
  | _ => none }
def PlanMoreWrongFalsely : Prop := planMoreRow.holds Tryd.pinned (OpenSpec.ofChange planMoreWrong)

/-- 'airchecklaw25.PlanLate': WHATEVER THE INPUT: true; the input reads as it did. -/
def planLateSpec : ChangeSpec := { name := "planLate", fn := fun _ => fun
  | [d1, d2, d3] => { results := [.lit (.bool true)], args := [d1, d2, d3] }
  | _ => none }
def planLateRow : OpenClaim := { program := "ytaaongcfeldcoaadoor", sum := "f70b86af5a1526b70d865cb89cd08999c761dddd2a399de97e63acbdb605247c", func := "aircheck/airchecklaw25.PlanLate", spec := "planLate", unfollowed := true, recurses := true, named := ["aircheck/plan.conditions"], apart := false, laid := [("aircheck/plan.conditions", laid_aircheck_plan_conditions)] }
def PlanLateSaid : Prop := planLateRow.holds Tryd.pinned (OpenSpec.ofChange planLateSpec)

/-- ITS FALSE NEIGHBOUR: 'it returns false'. Refute it at one input. -/
def planLateWrong : ChangeSpec := { name := "planLate", fn := fun _ => fun
  | [d1, d2, d3] => { results := [.lit (.bool false)], args := [d1, d2, d3] }
  | _ => none }
def PlanLateWrongFalsely : Prop := planLateRow.holds Tryd.pinned (OpenSpec.ofChange planLateWrong)

/-- 'airchecklaw25.PlanRows': WHATEVER THE INPUT: true; the input reads as it did. -/
def planRowsSpec : ChangeSpec := { name := "planRows", fn := fun _ => fun
  | [d1, d2] => { results := [.lit (.bool true)], args := [d1, d2] }
  | _ => none }
def planRowsRow : OpenClaim := { program := "ytaaongcfeldcoaadoor", sum := "f70b86af5a1526b70d865cb89cd08999c761dddd2a399de97e63acbdb605247c", func := "aircheck/airchecklaw25.PlanRows", spec := "planRows", unfollowed := true, recurses := true, named := ["aircheck/plan.conditions"], apart := false, laid := [("aircheck/plan.conditions", laid_aircheck_plan_conditions)] }
def PlanRowsSaid : Prop := planRowsRow.holds Tryd.pinned (OpenSpec.ofChange planRowsSpec)

/-- ITS FALSE NEIGHBOUR: 'it returns false'. Refute it at one input. -/
def planRowsWrong : ChangeSpec := { name := "planRows", fn := fun _ => fun
  | [d1, d2] => { results := [.lit (.bool false)], args := [d1, d2] }
  | _ => none }
def PlanRowsWrongFalsely : Prop := planRowsRow.holds Tryd.pinned (OpenSpec.ofChange planRowsWrong)

/- THE SECOND FORM. 'bulk': how many values and letters a reading holds, each counted each time it is reached (what is shared counts as often as it is met; a slice's spare places count too). A statement '..UptoSaid' is the law's where the arguments, and the package variables that the reading takes, are together of bulk at most 1048576: NARROWER than '..Said'. Prove '..Said' where nothing that the law and all that it calls make is longer than what came in: it says more and counts as full. Else prove '..UptoSaid'. A law counts once. -/
mutual
def uptoBulk {H : Type} : DataW H → Nat
  | .lit (.string bytes) => bytes.length + 1
  | .lit _ => 1
  | .nil => 1
  | .ptr d => uptoBulk d + 1
  | .slice elems spare => uptoBulkAll elems + uptoBulkAll spare + 1
  | .agg parts => uptoBulkAll parts + 1
  | .iface _ d => uptoBulk d + 1
  | .map entries => uptoBulkEntries entries + 1
  | .held _ => 1
def uptoBulkAll {H : Type} : List (DataW H) → Nat
  | [] => 0
  | d :: r => uptoBulk d + uptoBulkAll r
def uptoBulkEntries {H : Type} : List (Lit × DataW H) → Nat
  | [] => 0
  | x :: r => uptoBulkEntry x + uptoBulkEntries r
def uptoBulkEntry {H : Type} : Lit × DataW H → Nat
  | (.string bytes, d) => bytes.length + uptoBulk d + 1
  | (_, d) => uptoBulk d + 1
 end
def uptoSmall : (H : Type) → List (DataW H) → Bool := fun _ ds => decide (uptoBulkAll ds ≤ 1048576)
def OpenSpec.upto (s : _root_.Go.ChangeSpec) : _root_.Go.OpenSpec := { _root_.Go.OpenSpec.ofChange s with cond := some uptoSmall }

/-- 'airchecklaw25.PlanBest', WHERE WHAT IT READS IS OF BULK AT MOST 1048576: true; the input reads as it did. -/
def planBestUptoRow : OpenClaim := { program := "ytaaongcfeldcoaadoor", sum := "f70b86af5a1526b70d865cb89cd08999c761dddd2a399de97e63acbdb605247c", func := "aircheck/airchecklaw25.PlanBest", spec := "planBest", unfollowed := true, recurses := true, named := ["aircheck/plan.conditions"], apart := false, laid := [("aircheck/plan.conditions", laid_aircheck_plan_conditions)], narrowed := true }
def PlanBestUptoSaid : Prop := planBestUptoRow.holds Tryd.pinned (OpenSpec.upto planBestSpec)

/-- 'airchecklaw25.PlanRefused', WHERE WHAT IT READS IS OF BULK AT MOST 1048576: true; the input reads as it did. -/
def planRefusedUptoRow : OpenClaim := { program := "ytaaongcfeldcoaadoor", sum := "f70b86af5a1526b70d865cb89cd08999c761dddd2a399de97e63acbdb605247c", func := "aircheck/airchecklaw25.PlanRefused", spec := "planRefused", unfollowed := true, recurses := true, named := ["aircheck/plan.conditions"], apart := false, laid := [("aircheck/plan.conditions", laid_aircheck_plan_conditions)], narrowed := true }
def PlanRefusedUptoSaid : Prop := planRefusedUptoRow.holds Tryd.pinned (OpenSpec.upto planRefusedSpec)

/-- 'airchecklaw25.PlanMore', WHERE WHAT IT READS IS OF BULK AT MOST 1048576: true; the input reads as it did. -/
def planMoreUptoRow : OpenClaim := { program := "ytaaongcfeldcoaadoor", sum := "f70b86af5a1526b70d865cb89cd08999c761dddd2a399de97e63acbdb605247c", func := "aircheck/airchecklaw25.PlanMore", spec := "planMore", unfollowed := true, recurses := true, named := ["aircheck/plan.conditions"], apart := false, laid := [("aircheck/plan.conditions", laid_aircheck_plan_conditions)], narrowed := true }
def PlanMoreUptoSaid : Prop := planMoreUptoRow.holds Tryd.pinned (OpenSpec.upto planMoreSpec)

/-- 'airchecklaw25.PlanLate', WHERE WHAT IT READS IS OF BULK AT MOST 1048576: true; the input reads as it did. -/
def planLateUptoRow : OpenClaim := { program := "ytaaongcfeldcoaadoor", sum := "f70b86af5a1526b70d865cb89cd08999c761dddd2a399de97e63acbdb605247c", func := "aircheck/airchecklaw25.PlanLate", spec := "planLate", unfollowed := true, recurses := true, named := ["aircheck/plan.conditions"], apart := false, laid := [("aircheck/plan.conditions", laid_aircheck_plan_conditions)], narrowed := true }
def PlanLateUptoSaid : Prop := planLateUptoRow.holds Tryd.pinned (OpenSpec.upto planLateSpec)

/-- 'airchecklaw25.PlanRows', WHERE WHAT IT READS IS OF BULK AT MOST 1048576: true; the input reads as it did. -/
def planRowsUptoRow : OpenClaim := { program := "ytaaongcfeldcoaadoor", sum := "f70b86af5a1526b70d865cb89cd08999c761dddd2a399de97e63acbdb605247c", func := "aircheck/airchecklaw25.PlanRows", spec := "planRows", unfollowed := true, recurses := true, named := ["aircheck/plan.conditions"], apart := false, laid := [("aircheck/plan.conditions", laid_aircheck_plan_conditions)], narrowed := true }
def PlanRowsUptoSaid : Prop := planRowsUptoRow.holds Tryd.pinned (OpenSpec.upto planRowsSpec)

end Rows
end Go.Proofs.YtaaongcfeldcoaaDoor
