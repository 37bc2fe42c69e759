/- The law ReachListeners, out of its contract. -/
import Derived.Test.YtfamkbofdamkkaaRows
import Derived.Test.YtfamkbofdamkkaaKXb
import Derived.Test.YtfamkbofdamkkaaKXf
namespace Go.Proofs.Ytfamkbofdamkkaa
open Go.ChangeShapes Go.WideShapes Go.ChangeAt Go.RowKit
set_option linter.unusedVariables false
set_option maxRecDepth 100000 in
theorem reachListeners_lifted (os : Os) (started : os.Started) (H : Type) (enc : TypeId × Value → H) :
    ReturnsInHanded {} Try.checked os 15 .any (Rows.reachListenersSpec.pre6 enc Try.prog Try.f15 Rows.reachListenersRow.domain false) (Rows.reachListenersSpec.post enc Try.prog Try.f15 false true false false) := by
  refine returnsInHanded_of_change_sized (C := Try.checked) Try.own started (by kernel_rfl) Try.func15 (ChangeSpec.witness6 (enc := enc) (C := Try.checked) false ⟨#[], #[.slice none 0 0, .slice none 0 0, .agg (Array.replicate 2 (.int .i64 0))], []⟩ 8 (by kernel_rfl) (by kernel_rfl) (by kernel_rfl) (by kernel_rfl)) ?_
  intro W base args ds gs before hval0 hW _ hsz0 _
  have hval : ∀ (j : Nat) t v, Try.f15.params[j]? = some t → args[j]? = some v → Value.okWide Try.prog W .any base t v := hval0
  have hsz : (DataW.weightsEach Try.prog (Try.f15.params.toList ++ []) (ds ++ gs)).all (· ≤ reachBytes) = true := hsz0
  clear hval0 hsz0
  have hW0 := hW
  obtain ⟨p, q, hA0, hV, _, _, _⟩ := hW0
  obtain ⟨args⟩ := args
  have hA : DataW.TrodAll enc Try.prog W 0 (fun _ => true) true Try.f15.params.toList args ds p := hA0
  clear hA0
  obtain ⟨rfl, rfl⟩ := trodVars_none hV
  rw [Try.params15] at hA hval hsz
  obtain ⟨v0, vs0, d0, ds0, p0, q0, rfl, rfl, rfl, h0, h0r⟩ := trodAll_cons hA
  obtain ⟨v1, vs1, d1, ds1, p1, q1, rfl, rfl, rfl, h1, h1r⟩ := trodAll_cons h0r
  obtain ⟨v2, vs2, d2, ds2, p2, q2, rfl, rfl, rfl, h2, h2r⟩ := trodAll_cons h1r
  obtain ⟨rfl, rfl, rfl⟩ := trodAll_nil h2r
  obtain ⟨a0, qa0, ra0, ma0, sa0⟩ := open_sl Try.underlying22 (by kernel_rfl) dec3 (hval 0 22 v0 rfl rfl) h0
  obtain ⟨a1, qa1, ra1, ma1, sa1⟩ := open_sl Try.underlying72 (by kernel_rfl) dec2 (hval 1 72 v1 rfl rfl) h1
  obtain ⟨a2, qa2, ra2⟩ := open_ag dec2 (.inr ⟨_, _, Try.underlying90⟩) (hval 2 90 v2 rfl rfl) h2
  refine post_law (tb := 4) (al := [.sl 3 (encT a0), .sl 2 (encP a1), .agg [.int .i64 a2.x, .int .i64 a2.y]]) Try.laidOut (by kernel_rfl) hW rfl (by kernel_rfl) Try.underlying4 rfl (k15 a0 a1 ma0 ma1 qa0 qa1 a2 qa2) rfl (fun g h => (h rfl).elim) ?_
  intro i hi
  match i, hi with
  | 0, _ => exact ra0
  | 1, _ => exact ra1
  | 2, _ => exact ra2
  | i + 3, h => exact absurd h (by simp)
theorem reachListeners_holds : Rows.ReachListenersSaid :=
  OpenClaim.holds_of_wide 15 Try.f15 rfl rfl rfl rfl rfl rfl rfl ⟨rfl, rfl, rfl, rfl, rfl⟩ rfl rfl rfl rfl rfl (by kernel_rfl) Try.func15 (by kernel_rfl)
    (of_decide_eq_true (by kernel_rfl)) (by unfold Func.isWrapper; first | (rw [if_pos (by decide +kernel)]; kernel_rfl) | (rw [if_neg (by decide +kernel)]; exact ⟨rfl, rfl⟩))
    (fun os started H enc _ => reachListeners_lifted os started H enc)
end Go.Proofs.Ytfamkbofdamkkaa
