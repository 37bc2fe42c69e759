/-
  No cell of these rows narrows 'for every input' (looked for: loops, veiled, ifaces, maps, wideKeys, modest, calm, conditions, laid).
  DERIVED. THE GIVEN ROWS OF THIS SEAT. 13 by the template 'for every input the law returns true; each argument reads behind the call as it read before'; 0 by the template 'total and deterministic' (their statements: YtfamkbofdamkkaaTotals.lean).
  GIVEN WITH THE SEED: the statements are not yours to turn. If you find one false, say at which input.
  Laid BY PROGRAM, IN A SANDBOX (cutbox-rows.mjs): the forced cells as the released guide's own fill.sh prints them over the translation fa38f1a72125565a… (all of the seat's roots in one cut). By AI agents, Wed Nov 11 2026. No macro, syntax, notation, axiom, sorry.
-/
import Derived.Test.YtfamkbofdamkkaaChecked
import GoSem.Claim
import GoSem.ClaimJoined
import GoSem.ClaimMapViews
import Derived.JoinedTies
import Derived.KernelRfl
namespace Go.Proofs.Ytfamkbofdamkkaa
/- THE CELL 'sum', in the pinned program and in every row, IS THE sha256 OF THE DUMP (.gsa) THAT YtfamkbofdamkkaaProg.lean LOADS. Nothing in Lean hashes anything: it is a label: what it is worth is what the hold of that sum in a sandbox is worth. -/
noncomputable def Try.pinned : Pinned := { name := "ytfamkbofdamkkaa", sum := "fa38f1a72125565a227981a471108eee38d9f41e606014903a11c9ffa425c448", checked := Try.checked }
namespace Rows
def none {H : Type} : Left H := { results := [], args := [] }

/-- 'airchecklaw26.ProofMatchesReference': WHATEVER THE INPUT: true; the input reads as it did. -/
def proofMatchesReferenceSpec : ChangeSpec := { name := "proofMatchesReference", fn := fun _ => fun
  | [d1, d2, d3, d4, d5, d6, d7] => { results := [.lit (.bool true)], args := [d1, d2, d3, d4, d5, d6, d7] }
  | _ => none }
def proofMatchesReferenceRow : OpenClaim := { program := "ytfamkbofdamkkaa", sum := "fa38f1a72125565a227981a471108eee38d9f41e606014903a11c9ffa425c448", func := "aircheck/airchecklaw26.ProofMatchesReference", spec := "proofMatchesReference", unfollowed := true, recurses := true, apart := false }
def ProofMatchesReferenceSaid : Prop := proofMatchesReferenceRow.holds Try.pinned (OpenSpec.ofChange proofMatchesReferenceSpec)

/-- ITS FALSE NEIGHBOUR: 'it returns false'. Refute it at one input. -/
def proofMatchesReferenceWrong : ChangeSpec := { name := "proofMatchesReference", fn := fun _ => fun
  | [d1, d2, d3, d4, d5, d6, d7] => { results := [.lit (.bool false)], args := [d1, d2, d3, d4, d5, d6, d7] }
  | _ => none }
def ProofMatchesReferenceWrongFalsely : Prop := proofMatchesReferenceRow.holds Try.pinned (OpenSpec.ofChange proofMatchesReferenceWrong)

/-- 'airchecklaw26.ProofWeights': WHATEVER THE INPUT: true; the input reads as it did. -/
def proofWeightsSpec : ChangeSpec := { name := "proofWeights", fn := fun _ => fun
  | [d1, d2, d3, d4, d5, d6, d7] => { results := [.lit (.bool true)], args := [d1, d2, d3, d4, d5, d6, d7] }
  | _ => none }
def proofWeightsRow : OpenClaim := { program := "ytfamkbofdamkkaa", sum := "fa38f1a72125565a227981a471108eee38d9f41e606014903a11c9ffa425c448", func := "aircheck/airchecklaw26.ProofWeights", spec := "proofWeights", unfollowed := true, recurses := true, apart := false }
def ProofWeightsSaid : Prop := proofWeightsRow.holds Try.pinned (OpenSpec.ofChange proofWeightsSpec)

/-- ITS FALSE NEIGHBOUR: 'it returns false'. Refute it at one input. -/
def proofWeightsWrong : ChangeSpec := { name := "proofWeights", fn := fun _ => fun
  | [d1, d2, d3, d4, d5, d6, d7] => { results := [.lit (.bool false)], args := [d1, d2, d3, d4, d5, d6, d7] }
  | _ => none }
def ProofWeightsWrongFalsely : Prop := proofWeightsRow.holds Try.pinned (OpenSpec.ofChange proofWeightsWrong)

/-- 'airchecklaw26.ProofSound': WHATEVER THE INPUT: true; the input reads as it did. -/
def proofSoundSpec : ChangeSpec := { name := "proofSound", fn := fun _ => fun
  | [d1, d2, d3, d4, d5, d6, d7] => { results := [.lit (.bool true)], args := [d1, d2, d3, d4, d5, d6, d7] }
  | _ => none }
def proofSoundRow : OpenClaim := { program := "ytfamkbofdamkkaa", sum := "fa38f1a72125565a227981a471108eee38d9f41e606014903a11c9ffa425c448", func := "aircheck/airchecklaw26.ProofSound", spec := "proofSound", unfollowed := true, recurses := true, apart := false }
def ProofSoundSaid : Prop := proofSoundRow.holds Try.pinned (OpenSpec.ofChange proofSoundSpec)

/-- ITS FALSE NEIGHBOUR: 'it returns false'. Refute it at one input. -/
def proofSoundWrong : ChangeSpec := { name := "proofSound", fn := fun _ => fun
  | [d1, d2, d3, d4, d5, d6, d7] => { results := [.lit (.bool false)], args := [d1, d2, d3, d4, d5, d6, d7] }
  | _ => none }
def ProofSoundWrongFalsely : Prop := proofSoundRow.holds Try.pinned (OpenSpec.ofChange proofSoundWrong)

/-- 'airchecklaw26.ProofComplete': WHATEVER THE INPUT: true; the input reads as it did. -/
def proofCompleteSpec : ChangeSpec := { name := "proofComplete", fn := fun _ => fun
  | [d1, d2, d3, d4] => { results := [.lit (.bool true)], args := [d1, d2, d3, d4] }
  | _ => none }
def proofCompleteRow : OpenClaim := { program := "ytfamkbofdamkkaa", sum := "fa38f1a72125565a227981a471108eee38d9f41e606014903a11c9ffa425c448", func := "aircheck/airchecklaw26.ProofComplete", spec := "proofComplete", unfollowed := true, recurses := true, apart := false }
def ProofCompleteSaid : Prop := proofCompleteRow.holds Try.pinned (OpenSpec.ofChange proofCompleteSpec)

/-- ITS FALSE NEIGHBOUR: 'it returns false'. Refute it at one input. -/
def proofCompleteWrong : ChangeSpec := { name := "proofComplete", fn := fun _ => fun
  | [d1, d2, d3, d4] => { results := [.lit (.bool false)], args := [d1, d2, d3, d4] }
  | _ => none }
def ProofCompleteWrongFalsely : Prop := proofCompleteRow.holds Try.pinned (OpenSpec.ofChange proofCompleteWrong)

/-- 'airchecklaw26.ProofMore': WHATEVER THE INPUT: true; the input reads as it did. -/
def proofMoreSpec : ChangeSpec := { name := "proofMore", fn := fun _ => fun
  | [d1, d2, d3, d4, d5] => { results := [.lit (.bool true)], args := [d1, d2, d3, d4, d5] }
  | _ => none }
def proofMoreRow : OpenClaim := { program := "ytfamkbofdamkkaa", sum := "fa38f1a72125565a227981a471108eee38d9f41e606014903a11c9ffa425c448", func := "aircheck/airchecklaw26.ProofMore", spec := "proofMore", unfollowed := true, recurses := true, apart := false }
def ProofMoreSaid : Prop := proofMoreRow.holds Try.pinned (OpenSpec.ofChange proofMoreSpec)

/-- ITS FALSE NEIGHBOUR: 'it returns false'. Refute it at one input. -/
def proofMoreWrong : ChangeSpec := { name := "proofMore", fn := fun _ => fun
  | [d1, d2, d3, d4, d5] => { results := [.lit (.bool false)], args := [d1, d2, d3, d4, d5] }
  | _ => none }
def ProofMoreWrongFalsely : Prop := proofMoreRow.holds Try.pinned (OpenSpec.ofChange proofMoreWrong)

/-- 'airchecklaw26.ProofUsed': WHATEVER THE INPUT: true; the input reads as it did. -/
def proofUsedSpec : ChangeSpec := { name := "proofUsed", fn := fun _ => fun
  | [d1, d2, d3, d4] => { results := [.lit (.bool true)], args := [d1, d2, d3, d4] }
  | _ => none }
def proofUsedRow : OpenClaim := { program := "ytfamkbofdamkkaa", sum := "fa38f1a72125565a227981a471108eee38d9f41e606014903a11c9ffa425c448", func := "aircheck/airchecklaw26.ProofUsed", spec := "proofUsed", unfollowed := true, recurses := true, apart := false }
def ProofUsedSaid : Prop := proofUsedRow.holds Try.pinned (OpenSpec.ofChange proofUsedSpec)

/-- ITS FALSE NEIGHBOUR: 'it returns false'. Refute it at one input. -/
def proofUsedWrong : ChangeSpec := { name := "proofUsed", fn := fun _ => fun
  | [d1, d2, d3, d4] => { results := [.lit (.bool false)], args := [d1, d2, d3, d4] }
  | _ => none }
def ProofUsedWrongFalsely : Prop := proofUsedRow.holds Try.pinned (OpenSpec.ofChange proofUsedWrong)

/-- 'airchecklaw28.ReachMore': WHATEVER THE INPUT: true; the input reads as it did. -/
def reachMoreSpec : ChangeSpec := { name := "reachMore", fn := fun _ => fun
  | [d1, d2, d3, d4] => { results := [.lit (.bool true)], args := [d1, d2, d3, d4] }
  | _ => none }
def reachMoreRow : OpenClaim := { program := "ytfamkbofdamkkaa", sum := "fa38f1a72125565a227981a471108eee38d9f41e606014903a11c9ffa425c448", func := "aircheck/airchecklaw28.ReachMore", spec := "reachMore", unfollowed := true, recurses := true, apart := false }
def ReachMoreSaid : Prop := reachMoreRow.holds Try.pinned (OpenSpec.ofChange reachMoreSpec)

/-- ITS FALSE NEIGHBOUR: 'it returns false'. Refute it at one input. -/
def reachMoreWrong : ChangeSpec := { name := "reachMore", fn := fun _ => fun
  | [d1, d2, d3, d4] => { results := [.lit (.bool false)], args := [d1, d2, d3, d4] }
  | _ => none }
def ReachMoreWrongFalsely : Prop := reachMoreRow.holds Try.pinned (OpenSpec.ofChange reachMoreWrong)

/-- 'airchecklaw28.ReachLeast': WHATEVER THE INPUT: true; the input reads as it did. -/
def reachLeastSpec : ChangeSpec := { name := "reachLeast", fn := fun _ => fun
  | [d1, d2, d3] => { results := [.lit (.bool true)], args := [d1, d2, d3] }
  | _ => none }
def reachLeastRow : OpenClaim := { program := "ytfamkbofdamkkaa", sum := "fa38f1a72125565a227981a471108eee38d9f41e606014903a11c9ffa425c448", func := "aircheck/airchecklaw28.ReachLeast", spec := "reachLeast", unfollowed := true, recurses := true, apart := false }
def ReachLeastSaid : Prop := reachLeastRow.holds Try.pinned (OpenSpec.ofChange reachLeastSpec)

/-- ITS FALSE NEIGHBOUR: 'it returns false'. Refute it at one input. -/
def reachLeastWrong : ChangeSpec := { name := "reachLeast", fn := fun _ => fun
  | [d1, d2, d3] => { results := [.lit (.bool false)], args := [d1, d2, d3] }
  | _ => none }
def ReachLeastWrongFalsely : Prop := reachLeastRow.holds Try.pinned (OpenSpec.ofChange reachLeastWrong)

/-- 'airchecklaw28.ReachProved': WHATEVER THE INPUT: true; the input reads as it did. -/
def reachProvedSpec : ChangeSpec := { name := "reachProved", fn := fun _ => fun
  | [d1, d2, d3, d4, d5] => { results := [.lit (.bool true)], args := [d1, d2, d3, d4, d5] }
  | _ => none }
def reachProvedRow : OpenClaim := { program := "ytfamkbofdamkkaa", sum := "fa38f1a72125565a227981a471108eee38d9f41e606014903a11c9ffa425c448", func := "aircheck/airchecklaw28.ReachProved", spec := "reachProved", unfollowed := true, recurses := true, apart := false }
def ReachProvedSaid : Prop := reachProvedRow.holds Try.pinned (OpenSpec.ofChange reachProvedSpec)

/-- ITS FALSE NEIGHBOUR: 'it returns false'. Refute it at one input. -/
def reachProvedWrong : ChangeSpec := { name := "reachProved", fn := fun _ => fun
  | [d1, d2, d3, d4, d5] => { results := [.lit (.bool false)], args := [d1, d2, d3, d4, d5] }
  | _ => none }
def ReachProvedWrongFalsely : Prop := reachProvedRow.holds Try.pinned (OpenSpec.ofChange reachProvedWrong)

/-- 'airchecklaw28.ReachSpares': WHATEVER THE INPUT: true; the input reads as it did. -/
def reachSparesSpec : ChangeSpec := { name := "reachSpares", fn := fun _ => fun
  | [d1, d2, d3, d4] => { results := [.lit (.bool true)], args := [d1, d2, d3, d4] }
  | _ => none }
def reachSparesRow : OpenClaim := { program := "ytfamkbofdamkkaa", sum := "fa38f1a72125565a227981a471108eee38d9f41e606014903a11c9ffa425c448", func := "aircheck/airchecklaw28.ReachSpares", spec := "reachSpares", unfollowed := true, recurses := true, apart := false }
def ReachSparesSaid : Prop := reachSparesRow.holds Try.pinned (OpenSpec.ofChange reachSparesSpec)

/-- ITS FALSE NEIGHBOUR: 'it returns false'. Refute it at one input. -/
def reachSparesWrong : ChangeSpec := { name := "reachSpares", fn := fun _ => fun
  | [d1, d2, d3, d4] => { results := [.lit (.bool false)], args := [d1, d2, d3, d4] }
  | _ => none }
def ReachSparesWrongFalsely : Prop := reachSparesRow.holds Try.pinned (OpenSpec.ofChange reachSparesWrong)

/-- 'airchecklaw28.ReachKeeps': WHATEVER THE INPUT: true; the input reads as it did. -/
def reachKeepsSpec : ChangeSpec := { name := "reachKeeps", fn := fun _ => fun
  | [d1, d2, d3] => { results := [.lit (.bool true)], args := [d1, d2, d3] }
  | _ => none }
def reachKeepsRow : OpenClaim := { program := "ytfamkbofdamkkaa", sum := "fa38f1a72125565a227981a471108eee38d9f41e606014903a11c9ffa425c448", func := "aircheck/airchecklaw28.ReachKeeps", spec := "reachKeeps", unfollowed := true, recurses := true, apart := false }
def ReachKeepsSaid : Prop := reachKeepsRow.holds Try.pinned (OpenSpec.ofChange reachKeepsSpec)

/-- ITS FALSE NEIGHBOUR: 'it returns false'. Refute it at one input. -/
def reachKeepsWrong : ChangeSpec := { name := "reachKeeps", fn := fun _ => fun
  | [d1, d2, d3] => { results := [.lit (.bool false)], args := [d1, d2, d3] }
  | _ => none }
def ReachKeepsWrongFalsely : Prop := reachKeepsRow.holds Try.pinned (OpenSpec.ofChange reachKeepsWrong)

/-- 'airchecklaw28.ReachMissing': WHATEVER THE INPUT: true; the input reads as it did. -/
def reachMissingSpec : ChangeSpec := { name := "reachMissing", fn := fun _ => fun
  | [d1, d2, d3, d4] => { results := [.lit (.bool true)], args := [d1, d2, d3, d4] }
  | _ => none }
def reachMissingRow : OpenClaim := { program := "ytfamkbofdamkkaa", sum := "fa38f1a72125565a227981a471108eee38d9f41e606014903a11c9ffa425c448", func := "aircheck/airchecklaw28.ReachMissing", spec := "reachMissing", unfollowed := true, recurses := true, apart := false }
def ReachMissingSaid : Prop := reachMissingRow.holds Try.pinned (OpenSpec.ofChange reachMissingSpec)

/-- ITS FALSE NEIGHBOUR: 'it returns false'. Refute it at one input. -/
def reachMissingWrong : ChangeSpec := { name := "reachMissing", fn := fun _ => fun
  | [d1, d2, d3, d4] => { results := [.lit (.bool false)], args := [d1, d2, d3, d4] }
  | _ => none }
def ReachMissingWrongFalsely : Prop := reachMissingRow.holds Try.pinned (OpenSpec.ofChange reachMissingWrong)

/-- 'airchecklaw28.ReachListeners': WHATEVER THE INPUT: true; the input reads as it did. -/
def reachListenersSpec : ChangeSpec := { name := "reachListeners", fn := fun _ => fun
  | [d1, d2, d3] => { results := [.lit (.bool true)], args := [d1, d2, d3] }
  | _ => none }
def reachListenersRow : OpenClaim := { program := "ytfamkbofdamkkaa", sum := "fa38f1a72125565a227981a471108eee38d9f41e606014903a11c9ffa425c448", func := "aircheck/airchecklaw28.ReachListeners", spec := "reachListeners", unfollowed := true, recurses := true, apart := false }
def ReachListenersSaid : Prop := reachListenersRow.holds Try.pinned (OpenSpec.ofChange reachListenersSpec)

/-- ITS FALSE NEIGHBOUR: 'it returns false'. Refute it at one input. -/
def reachListenersWrong : ChangeSpec := { name := "reachListeners", fn := fun _ => fun
  | [d1, d2, d3] => { results := [.lit (.bool false)], args := [d1, d2, d3] }
  | _ => none }
def ReachListenersWrongFalsely : Prop := reachListenersRow.holds Try.pinned (OpenSpec.ofChange reachListenersWrong)

/- THE SECOND FORM. 'bulk': how many values and letters a reading holds, each counted each time it is reached (what is shared counts as often as it is met; a slice's spare places count too). A statement '..UptoSaid' is the law's where the arguments, and the package variables that the reading takes, are together of bulk at most 1048576: NARROWER than '..Said'. Prove '..Said' where nothing that the law and all that it calls make is longer than what came in: it says more and counts as full. Else prove '..UptoSaid'. A law counts once. -/
mutual
def uptoBulk {H : Type} : DataW H → Nat
  | .lit (.string bytes) => bytes.length + 1
  | .lit _ => 1
  | .nil => 1
  | .ptr d => uptoBulk d + 1
  | .slice elems spare => uptoBulkAll elems + uptoBulkAll spare + 1
  | .agg parts => uptoBulkAll parts + 1
  | .iface _ d => uptoBulk d + 1
  | .map entries => uptoBulkEntries entries + 1
  | .held _ => 1
def uptoBulkAll {H : Type} : List (DataW H) → Nat
  | [] => 0
  | d :: r => uptoBulk d + uptoBulkAll r
def uptoBulkEntries {H : Type} : List (Lit × DataW H) → Nat
  | [] => 0
  | x :: r => uptoBulkEntry x + uptoBulkEntries r
def uptoBulkEntry {H : Type} : Lit × DataW H → Nat
  | (.string bytes, d) => bytes.length + uptoBulk d + 1
  | (_, d) => uptoBulk d + 1
 end
def uptoSmall : (H : Type) → List (DataW H) → Bool := fun _ ds => decide (uptoBulkAll ds ≤ 1048576)
def OpenSpec.upto (s : _root_.Go.ChangeSpec) : _root_.Go.OpenSpec := { _root_.Go.OpenSpec.ofChange s with cond := some uptoSmall }

/-- 'airchecklaw26.ProofMatchesReference', WHERE WHAT IT READS IS OF BULK AT MOST 1048576: true; the input reads as it did. -/
def proofMatchesReferenceUptoRow : OpenClaim := { program := "ytfamkbofdamkkaa", sum := "fa38f1a72125565a227981a471108eee38d9f41e606014903a11c9ffa425c448", func := "aircheck/airchecklaw26.ProofMatchesReference", spec := "proofMatchesReference", unfollowed := true, recurses := true, apart := false, narrowed := true }
def ProofMatchesReferenceUptoSaid : Prop := proofMatchesReferenceUptoRow.holds Try.pinned (OpenSpec.upto proofMatchesReferenceSpec)

/-- 'airchecklaw26.ProofWeights', WHERE WHAT IT READS IS OF BULK AT MOST 1048576: true; the input reads as it did. -/
def proofWeightsUptoRow : OpenClaim := { program := "ytfamkbofdamkkaa", sum := "fa38f1a72125565a227981a471108eee38d9f41e606014903a11c9ffa425c448", func := "aircheck/airchecklaw26.ProofWeights", spec := "proofWeights", unfollowed := true, recurses := true, apart := false, narrowed := true }
def ProofWeightsUptoSaid : Prop := proofWeightsUptoRow.holds Try.pinned (OpenSpec.upto proofWeightsSpec)

/-- 'airchecklaw26.ProofSound', WHERE WHAT IT READS IS OF BULK AT MOST 1048576: true; the input reads as it did. -/
def proofSoundUptoRow : OpenClaim := { program := "ytfamkbofdamkkaa", sum := "fa38f1a72125565a227981a471108eee38d9f41e606014903a11c9ffa425c448", func := "aircheck/airchecklaw26.ProofSound", spec := "proofSound", unfollowed := true, recurses := true, apart := false, narrowed := true }
def ProofSoundUptoSaid : Prop := proofSoundUptoRow.holds Try.pinned (OpenSpec.upto proofSoundSpec)

/-- 'airchecklaw26.ProofComplete', WHERE WHAT IT READS IS OF BULK AT MOST 1048576: true; the input reads as it did. -/
def proofCompleteUptoRow : OpenClaim := { program := "ytfamkbofdamkkaa", sum := "fa38f1a72125565a227981a471108eee38d9f41e606014903a11c9ffa425c448", func := "aircheck/airchecklaw26.ProofComplete", spec := "proofComplete", unfollowed := true, recurses := true, apart := false, narrowed := true }
def ProofCompleteUptoSaid : Prop := proofCompleteUptoRow.holds Try.pinned (OpenSpec.upto proofCompleteSpec)

/-- 'airchecklaw26.ProofMore', WHERE WHAT IT READS IS OF BULK AT MOST 1048576: true; the input reads as it did. -/
def proofMoreUptoRow : OpenClaim := { program := "ytfamkbofdamkkaa", sum := "fa38f1a72125565a227981a471108eee38d9f41e606014903a11c9ffa425c448", func := "aircheck/airchecklaw26.ProofMore", spec := "proofMore", unfollowed := true, recurses := true, apart := false, narrowed := true }
def ProofMoreUptoSaid : Prop := proofMoreUptoRow.holds Try.pinned (OpenSpec.upto proofMoreSpec)

/-- 'airchecklaw26.ProofUsed', WHERE WHAT IT READS IS OF BULK AT MOST 1048576: true; the input reads as it did. -/
def proofUsedUptoRow : OpenClaim := { program := "ytfamkbofdamkkaa", sum := "fa38f1a72125565a227981a471108eee38d9f41e606014903a11c9ffa425c448", func := "aircheck/airchecklaw26.ProofUsed", spec := "proofUsed", unfollowed := true, recurses := true, apart := false, narrowed := true }
def ProofUsedUptoSaid : Prop := proofUsedUptoRow.holds Try.pinned (OpenSpec.upto proofUsedSpec)

/-- 'airchecklaw28.ReachMore', WHERE WHAT IT READS IS OF BULK AT MOST 1048576: true; the input reads as it did. -/
def reachMoreUptoRow : OpenClaim := { program := "ytfamkbofdamkkaa", sum := "fa38f1a72125565a227981a471108eee38d9f41e606014903a11c9ffa425c448", func := "aircheck/airchecklaw28.ReachMore", spec := "reachMore", unfollowed := true, recurses := true, apart := false, narrowed := true }
def ReachMoreUptoSaid : Prop := reachMoreUptoRow.holds Try.pinned (OpenSpec.upto reachMoreSpec)

/-- 'airchecklaw28.ReachLeast', WHERE WHAT IT READS IS OF BULK AT MOST 1048576: true; the input reads as it did. -/
def reachLeastUptoRow : OpenClaim := { program := "ytfamkbofdamkkaa", sum := "fa38f1a72125565a227981a471108eee38d9f41e606014903a11c9ffa425c448", func := "aircheck/airchecklaw28.ReachLeast", spec := "reachLeast", unfollowed := true, recurses := true, apart := false, narrowed := true }
def ReachLeastUptoSaid : Prop := reachLeastUptoRow.holds Try.pinned (OpenSpec.upto reachLeastSpec)

/-- 'airchecklaw28.ReachProved', WHERE WHAT IT READS IS OF BULK AT MOST 1048576: true; the input reads as it did. -/
def reachProvedUptoRow : OpenClaim := { program := "ytfamkbofdamkkaa", sum := "fa38f1a72125565a227981a471108eee38d9f41e606014903a11c9ffa425c448", func := "aircheck/airchecklaw28.ReachProved", spec := "reachProved", unfollowed := true, recurses := true, apart := false, narrowed := true }
def ReachProvedUptoSaid : Prop := reachProvedUptoRow.holds Try.pinned (OpenSpec.upto reachProvedSpec)

/-- 'airchecklaw28.ReachSpares', WHERE WHAT IT READS IS OF BULK AT MOST 1048576: true; the input reads as it did. -/
def reachSparesUptoRow : OpenClaim := { program := "ytfamkbofdamkkaa", sum := "fa38f1a72125565a227981a471108eee38d9f41e606014903a11c9ffa425c448", func := "aircheck/airchecklaw28.ReachSpares", spec := "reachSpares", unfollowed := true, recurses := true, apart := false, narrowed := true }
def ReachSparesUptoSaid : Prop := reachSparesUptoRow.holds Try.pinned (OpenSpec.upto reachSparesSpec)

/-- 'airchecklaw28.ReachKeeps', WHERE WHAT IT READS IS OF BULK AT MOST 1048576: true; the input reads as it did. -/
def reachKeepsUptoRow : OpenClaim := { program := "ytfamkbofdamkkaa", sum := "fa38f1a72125565a227981a471108eee38d9f41e606014903a11c9ffa425c448", func := "aircheck/airchecklaw28.ReachKeeps", spec := "reachKeeps", unfollowed := true, recurses := true, apart := false, narrowed := true }
def ReachKeepsUptoSaid : Prop := reachKeepsUptoRow.holds Try.pinned (OpenSpec.upto reachKeepsSpec)

/-- 'airchecklaw28.ReachMissing', WHERE WHAT IT READS IS OF BULK AT MOST 1048576: true; the input reads as it did. -/
def reachMissingUptoRow : OpenClaim := { program := "ytfamkbofdamkkaa", sum := "fa38f1a72125565a227981a471108eee38d9f41e606014903a11c9ffa425c448", func := "aircheck/airchecklaw28.ReachMissing", spec := "reachMissing", unfollowed := true, recurses := true, apart := false, narrowed := true }
def ReachMissingUptoSaid : Prop := reachMissingUptoRow.holds Try.pinned (OpenSpec.upto reachMissingSpec)

/-- 'airchecklaw28.ReachListeners', WHERE WHAT IT READS IS OF BULK AT MOST 1048576: true; the input reads as it did. -/
def reachListenersUptoRow : OpenClaim := { program := "ytfamkbofdamkkaa", sum := "fa38f1a72125565a227981a471108eee38d9f41e606014903a11c9ffa425c448", func := "aircheck/airchecklaw28.ReachListeners", spec := "reachListeners", unfollowed := true, recurses := true, apart := false, narrowed := true }
def ReachListenersUptoSaid : Prop := reachListenersUptoRow.holds Try.pinned (OpenSpec.upto reachListenersSpec)

end Rows
end Go.Proofs.Ytfamkbofdamkkaa
