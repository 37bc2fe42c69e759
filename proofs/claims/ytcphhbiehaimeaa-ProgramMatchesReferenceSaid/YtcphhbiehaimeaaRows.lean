/-
  No cell of these rows narrows 'for every input' (looked for: loops, veiled, ifaces, maps, wideKeys, modest, calm, conditions, laid).
  DERIVED. THE GIVEN ROWS OF THIS SEAT. 7 by the template 'for every input the law returns true; each argument reads behind the call as it read before'; 0 by the template 'total and deterministic' (their statements: YtcphhbiehaimeaaTotals.lean).
  GIVEN WITH THE SEED: the statements are not yours to turn. If you find one false, say at which input.
  Laid BY PROGRAM, IN A SANDBOX (cutbox-rows.mjs): the forced cells as the released guide's own fill.sh prints them over the translation bb13e1fca30d9a27… (all of the seat's roots in one cut). By AI agents, Wed Nov 11 2026. No macro, syntax, notation, axiom, sorry.
-/
import Derived.Test.YtcphhbiehaimeaaChecked
import GoSem.Claim
import GoSem.ClaimJoined
import GoSem.ClaimMapViews
import Derived.JoinedTies
import Derived.KernelRfl
namespace Go.Proofs.Ytcphhbiehaimeaa
/- THE CELL 'sum', in the pinned program and in every row, IS THE sha256 OF THE DUMP (.gsa) THAT YtcphhbiehaimeaaProg.lean LOADS. Nothing in Lean hashes anything: it is a label: what it is worth is what the hold of that sum in a sandbox is worth. -/
noncomputable def Try.pinned : Pinned := { name := "ytcphhbiehaimeaa", sum := "bb13e1fca30d9a275b4425b88a87588fb0aabe9d868e663a8361ea61a1c087d4", checked := Try.checked }
namespace Rows
def none {H : Type} : Left H := { results := [], args := [] }

/-- 'airchecklaw23.ProgramMatchesReference': WHATEVER THE INPUT: true; the input reads as it did. -/
def programMatchesReferenceSpec : ChangeSpec := { name := "programMatchesReference", fn := fun _ => fun
  | [d1, d2, d3, d4, d5, d6, d7, d8, d9] => { results := [.lit (.bool true)], args := [d1, d2, d3, d4, d5, d6, d7, d8, d9] }
  | _ => none }
def programMatchesReferenceRow : OpenClaim := { program := "ytcphhbiehaimeaa", sum := "bb13e1fca30d9a275b4425b88a87588fb0aabe9d868e663a8361ea61a1c087d4", func := "aircheck/airchecklaw23.ProgramMatchesReference", spec := "programMatchesReference", unfollowed := true, recurses := true, apart := false }
def ProgramMatchesReferenceSaid : Prop := programMatchesReferenceRow.holds Try.pinned (OpenSpec.ofChange programMatchesReferenceSpec)

/-- ITS FALSE NEIGHBOUR: 'it returns false'. Refute it at one input. -/
def programMatchesReferenceWrong : ChangeSpec := { name := "programMatchesReference", fn := fun _ => fun
  | [d1, d2, d3, d4, d5, d6, d7, d8, d9] => { results := [.lit (.bool false)], args := [d1, d2, d3, d4, d5, d6, d7, d8, d9] }
  | _ => none }
def ProgramMatchesReferenceWrongFalsely : Prop := programMatchesReferenceRow.holds Try.pinned (OpenSpec.ofChange programMatchesReferenceWrong)

/-- 'airchecklaw23.ProgramBest': WHATEVER THE INPUT: true; the input reads as it did. -/
def programBestSpec : ChangeSpec := { name := "programBest", fn := fun _ => fun
  | [d1, d2, d3] => { results := [.lit (.bool true)], args := [d1, d2, d3] }
  | _ => none }
def programBestRow : OpenClaim := { program := "ytcphhbiehaimeaa", sum := "bb13e1fca30d9a275b4425b88a87588fb0aabe9d868e663a8361ea61a1c087d4", func := "aircheck/airchecklaw23.ProgramBest", spec := "programBest", unfollowed := true, recurses := true, apart := false }
def ProgramBestSaid : Prop := programBestRow.holds Try.pinned (OpenSpec.ofChange programBestSpec)

/-- ITS FALSE NEIGHBOUR: 'it returns false'. Refute it at one input. -/
def programBestWrong : ChangeSpec := { name := "programBest", fn := fun _ => fun
  | [d1, d2, d3] => { results := [.lit (.bool false)], args := [d1, d2, d3] }
  | _ => none }
def ProgramBestWrongFalsely : Prop := programBestRow.holds Try.pinned (OpenSpec.ofChange programBestWrong)

/-- 'airchecklaw23.ProgramProof': WHATEVER THE INPUT: true; the input reads as it did. -/
def programProofSpec : ChangeSpec := { name := "programProof", fn := fun _ => fun
  | [d1, d2, d3] => { results := [.lit (.bool true)], args := [d1, d2, d3] }
  | _ => none }
def programProofRow : OpenClaim := { program := "ytcphhbiehaimeaa", sum := "bb13e1fca30d9a275b4425b88a87588fb0aabe9d868e663a8361ea61a1c087d4", func := "aircheck/airchecklaw23.ProgramProof", spec := "programProof", unfollowed := true, recurses := true, apart := false }
def ProgramProofSaid : Prop := programProofRow.holds Try.pinned (OpenSpec.ofChange programProofSpec)

/-- ITS FALSE NEIGHBOUR: 'it returns false'. Refute it at one input. -/
def programProofWrong : ChangeSpec := { name := "programProof", fn := fun _ => fun
  | [d1, d2, d3] => { results := [.lit (.bool false)], args := [d1, d2, d3] }
  | _ => none }
def ProgramProofWrongFalsely : Prop := programProofRow.holds Try.pinned (OpenSpec.ofChange programProofWrong)

/-- 'airchecklaw23.ProgramMore': WHATEVER THE INPUT: true; the input reads as it did. -/
def programMoreSpec : ChangeSpec := { name := "programMore", fn := fun _ => fun
  | [d1, d2, d3, d4, d5] => { results := [.lit (.bool true)], args := [d1, d2, d3, d4, d5] }
  | _ => none }
def programMoreRow : OpenClaim := { program := "ytcphhbiehaimeaa", sum := "bb13e1fca30d9a275b4425b88a87588fb0aabe9d868e663a8361ea61a1c087d4", func := "aircheck/airchecklaw23.ProgramMore", spec := "programMore", unfollowed := true, recurses := true, apart := false }
def ProgramMoreSaid : Prop := programMoreRow.holds Try.pinned (OpenSpec.ofChange programMoreSpec)

/-- ITS FALSE NEIGHBOUR: 'it returns false'. Refute it at one input. -/
def programMoreWrong : ChangeSpec := { name := "programMore", fn := fun _ => fun
  | [d1, d2, d3, d4, d5] => { results := [.lit (.bool false)], args := [d1, d2, d3, d4, d5] }
  | _ => none }
def ProgramMoreWrongFalsely : Prop := programMoreRow.holds Try.pinned (OpenSpec.ofChange programMoreWrong)

/-- 'airchecklaw23.ProgramOrder': WHATEVER THE INPUT: true; the input reads as it did. -/
def programOrderSpec : ChangeSpec := { name := "programOrder", fn := fun _ => fun
  | [d1, d2, d3, d4, d5] => { results := [.lit (.bool true)], args := [d1, d2, d3, d4, d5] }
  | _ => none }
def programOrderRow : OpenClaim := { program := "ytcphhbiehaimeaa", sum := "bb13e1fca30d9a275b4425b88a87588fb0aabe9d868e663a8361ea61a1c087d4", func := "aircheck/airchecklaw23.ProgramOrder", spec := "programOrder", unfollowed := true, recurses := true, apart := false }
def ProgramOrderSaid : Prop := programOrderRow.holds Try.pinned (OpenSpec.ofChange programOrderSpec)

/-- ITS FALSE NEIGHBOUR: 'it returns false'. Refute it at one input. -/
def programOrderWrong : ChangeSpec := { name := "programOrder", fn := fun _ => fun
  | [d1, d2, d3, d4, d5] => { results := [.lit (.bool false)], args := [d1, d2, d3, d4, d5] }
  | _ => none }
def ProgramOrderWrongFalsely : Prop := programOrderRow.holds Try.pinned (OpenSpec.ofChange programOrderWrong)

/-- 'airchecklaw23.ProgramSums': WHATEVER THE INPUT: true; the input reads as it did. -/
def programSumsSpec : ChangeSpec := { name := "programSums", fn := fun _ => fun
  | [d1, d2, d3, d4, d5] => { results := [.lit (.bool true)], args := [d1, d2, d3, d4, d5] }
  | _ => none }
def programSumsRow : OpenClaim := { program := "ytcphhbiehaimeaa", sum := "bb13e1fca30d9a275b4425b88a87588fb0aabe9d868e663a8361ea61a1c087d4", func := "aircheck/airchecklaw23.ProgramSums", spec := "programSums", unfollowed := true, recurses := true, apart := false }
def ProgramSumsSaid : Prop := programSumsRow.holds Try.pinned (OpenSpec.ofChange programSumsSpec)

/-- ITS FALSE NEIGHBOUR: 'it returns false'. Refute it at one input. -/
def programSumsWrong : ChangeSpec := { name := "programSums", fn := fun _ => fun
  | [d1, d2, d3, d4, d5] => { results := [.lit (.bool false)], args := [d1, d2, d3, d4, d5] }
  | _ => none }
def ProgramSumsWrongFalsely : Prop := programSumsRow.holds Try.pinned (OpenSpec.ofChange programSumsWrong)

/-- 'airchecklaw23.ProgramAdds': WHATEVER THE INPUT: true; the input reads as it did. -/
def programAddsSpec : ChangeSpec := { name := "programAdds", fn := fun _ => fun
  | [d1, d2, d3, d4, d5] => { results := [.lit (.bool true)], args := [d1, d2, d3, d4, d5] }
  | _ => none }
def programAddsRow : OpenClaim := { program := "ytcphhbiehaimeaa", sum := "bb13e1fca30d9a275b4425b88a87588fb0aabe9d868e663a8361ea61a1c087d4", func := "aircheck/airchecklaw23.ProgramAdds", spec := "programAdds", unfollowed := true, recurses := true, apart := false }
def ProgramAddsSaid : Prop := programAddsRow.holds Try.pinned (OpenSpec.ofChange programAddsSpec)

/-- ITS FALSE NEIGHBOUR: 'it returns false'. Refute it at one input. -/
def programAddsWrong : ChangeSpec := { name := "programAdds", fn := fun _ => fun
  | [d1, d2, d3, d4, d5] => { results := [.lit (.bool false)], args := [d1, d2, d3, d4, d5] }
  | _ => none }
def ProgramAddsWrongFalsely : Prop := programAddsRow.holds Try.pinned (OpenSpec.ofChange programAddsWrong)

/- THE SECOND FORM. 'bulk': how many values and letters a reading holds, each counted each time it is reached (what is shared counts as often as it is met; a slice's spare places count too). A statement '..UptoSaid' is the law's where the arguments, and the package variables that the reading takes, are together of bulk at most 1048576: NARROWER than '..Said'. Prove '..Said' where nothing that the law and all that it calls make is longer than what came in: it says more and counts as full. Else prove '..UptoSaid'. A law counts once. -/
mutual
def uptoBulk {H : Type} : DataW H → Nat
  | .lit (.string bytes) => bytes.length + 1
  | .lit _ => 1
  | .nil => 1
  | .ptr d => uptoBulk d + 1
  | .slice elems spare => uptoBulkAll elems + uptoBulkAll spare + 1
  | .agg parts => uptoBulkAll parts + 1
  | .iface _ d => uptoBulk d + 1
  | .map entries => uptoBulkEntries entries + 1
  | .held _ => 1
def uptoBulkAll {H : Type} : List (DataW H) → Nat
  | [] => 0
  | d :: r => uptoBulk d + uptoBulkAll r
def uptoBulkEntries {H : Type} : List (Lit × DataW H) → Nat
  | [] => 0
  | x :: r => uptoBulkEntry x + uptoBulkEntries r
def uptoBulkEntry {H : Type} : Lit × DataW H → Nat
  | (.string bytes, d) => bytes.length + uptoBulk d + 1
  | (_, d) => uptoBulk d + 1
 end
def uptoSmall : (H : Type) → List (DataW H) → Bool := fun _ ds => decide (uptoBulkAll ds ≤ 1048576)
def OpenSpec.upto (s : _root_.Go.ChangeSpec) : _root_.Go.OpenSpec := { _root_.Go.OpenSpec.ofChange s with cond := some uptoSmall }

/-- 'airchecklaw23.ProgramMatchesReference', WHERE WHAT IT READS IS OF BULK AT MOST 1048576: true; the input reads as it did. -/
def programMatchesReferenceUptoRow : OpenClaim := { program := "ytcphhbiehaimeaa", sum := "bb13e1fca30d9a275b4425b88a87588fb0aabe9d868e663a8361ea61a1c087d4", func := "aircheck/airchecklaw23.ProgramMatchesReference", spec := "programMatchesReference", unfollowed := true, recurses := true, apart := false, narrowed := true }
def ProgramMatchesReferenceUptoSaid : Prop := programMatchesReferenceUptoRow.holds Try.pinned (OpenSpec.upto programMatchesReferenceSpec)

/-- 'airchecklaw23.ProgramBest', WHERE WHAT IT READS IS OF BULK AT MOST 1048576: true; the input reads as it did. -/
def programBestUptoRow : OpenClaim := { program := "ytcphhbiehaimeaa", sum := "bb13e1fca30d9a275b4425b88a87588fb0aabe9d868e663a8361ea61a1c087d4", func := "aircheck/airchecklaw23.ProgramBest", spec := "programBest", unfollowed := true, recurses := true, apart := false, narrowed := true }
def ProgramBestUptoSaid : Prop := programBestUptoRow.holds Try.pinned (OpenSpec.upto programBestSpec)

/-- 'airchecklaw23.ProgramProof', WHERE WHAT IT READS IS OF BULK AT MOST 1048576: true; the input reads as it did. -/
def programProofUptoRow : OpenClaim := { program := "ytcphhbiehaimeaa", sum := "bb13e1fca30d9a275b4425b88a87588fb0aabe9d868e663a8361ea61a1c087d4", func := "aircheck/airchecklaw23.ProgramProof", spec := "programProof", unfollowed := true, recurses := true, apart := false, narrowed := true }
def ProgramProofUptoSaid : Prop := programProofUptoRow.holds Try.pinned (OpenSpec.upto programProofSpec)

/-- 'airchecklaw23.ProgramMore', WHERE WHAT IT READS IS OF BULK AT MOST 1048576: true; the input reads as it did. -/
def programMoreUptoRow : OpenClaim := { program := "ytcphhbiehaimeaa", sum := "bb13e1fca30d9a275b4425b88a87588fb0aabe9d868e663a8361ea61a1c087d4", func := "aircheck/airchecklaw23.ProgramMore", spec := "programMore", unfollowed := true, recurses := true, apart := false, narrowed := true }
def ProgramMoreUptoSaid : Prop := programMoreUptoRow.holds Try.pinned (OpenSpec.upto programMoreSpec)

/-- 'airchecklaw23.ProgramOrder', WHERE WHAT IT READS IS OF BULK AT MOST 1048576: true; the input reads as it did. -/
def programOrderUptoRow : OpenClaim := { program := "ytcphhbiehaimeaa", sum := "bb13e1fca30d9a275b4425b88a87588fb0aabe9d868e663a8361ea61a1c087d4", func := "aircheck/airchecklaw23.ProgramOrder", spec := "programOrder", unfollowed := true, recurses := true, apart := false, narrowed := true }
def ProgramOrderUptoSaid : Prop := programOrderUptoRow.holds Try.pinned (OpenSpec.upto programOrderSpec)

/-- 'airchecklaw23.ProgramSums', WHERE WHAT IT READS IS OF BULK AT MOST 1048576: true; the input reads as it did. -/
def programSumsUptoRow : OpenClaim := { program := "ytcphhbiehaimeaa", sum := "bb13e1fca30d9a275b4425b88a87588fb0aabe9d868e663a8361ea61a1c087d4", func := "aircheck/airchecklaw23.ProgramSums", spec := "programSums", unfollowed := true, recurses := true, apart := false, narrowed := true }
def ProgramSumsUptoSaid : Prop := programSumsUptoRow.holds Try.pinned (OpenSpec.upto programSumsSpec)

/-- 'airchecklaw23.ProgramAdds', WHERE WHAT IT READS IS OF BULK AT MOST 1048576: true; the input reads as it did. -/
def programAddsUptoRow : OpenClaim := { program := "ytcphhbiehaimeaa", sum := "bb13e1fca30d9a275b4425b88a87588fb0aabe9d868e663a8361ea61a1c087d4", func := "aircheck/airchecklaw23.ProgramAdds", spec := "programAdds", unfollowed := true, recurses := true, apart := false, narrowed := true }
def ProgramAddsUptoSaid : Prop := programAddsUptoRow.holds Try.pinned (OpenSpec.upto programAddsSpec)

end Rows
end Go.Proofs.Ytcphhbiehaimeaa
