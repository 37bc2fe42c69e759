/- The law ReachProved, out of its contract. -/
import Derived.Test.YtfamkbofdamkkaaRows
import Derived.Test.YtfamkbofdamkkaaKYb
import Derived.Test.YtfamkbofdamkkaaKYf
namespace Go.Proofs.Ytfamkbofdamkkaa
open Go.ChangeShapes Go.WideShapes Go.ChangeAt Go.RowKit
set_option linter.unusedVariables false
set_option maxRecDepth 100000 in
theorem reachProved_lifted (os : Os) (started : os.Started) (H : Type) (enc : TypeId × Value → H) :
    ReturnsInHanded {} Try.checked os 11 .any (Rows.reachProvedSpec.pre6 enc Try.prog Try.f11 Rows.reachProvedRow.domain false) (Rows.reachProvedSpec.post enc Try.prog Try.f11 false true false false) := by
  refine returnsInHanded_of_change_sized (C := Try.checked) Try.own started (by kernel_rfl) Try.func11 (ChangeSpec.witness6 (enc := enc) (C := Try.checked) false ⟨#[], #[.slice none 0 0, .slice none 0 0, .agg #[.bool false, .int .i64 0, .int .i64 0, .slice none 0 0], .int .i64 0, .agg (Array.replicate 4 (.int .i64 0))], []⟩ 8 (by kernel_rfl) (by kernel_rfl) (by kernel_rfl) (by kernel_rfl)) ?_
  intro W base args ds gs before hval0 hW _ hsz0 _
  have hval : ∀ (j : Nat) t v, Try.f11.params[j]? = some t → args[j]? = some v → Value.okWide Try.prog W .any base t v := hval0
  have hsz : (DataW.weightsEach Try.prog (Try.f11.params.toList ++ []) (ds ++ gs)).all (· ≤ reachBytes) = true := hsz0
  clear hval0 hsz0
  have hW0 := hW
  obtain ⟨p, q, hA0, hV, _, _, _⟩ := hW0
  obtain ⟨args⟩ := args
  have hA : DataW.TrodAll enc Try.prog W 0 (fun _ => true) true Try.f11.params.toList args ds p := hA0
  clear hA0
  obtain ⟨rfl, rfl⟩ := trodVars_none hV
  rw [Try.params11] at hA hval hsz
  obtain ⟨v0, vs0, d0, ds0, p0, q0, rfl, rfl, rfl, h0, h0r⟩ := trodAll_cons hA
  obtain ⟨v1, vs1, d1, ds1, p1, q1, rfl, rfl, rfl, h1, h1r⟩ := trodAll_cons h0r
  obtain ⟨v2, vs2, d2, ds2, p2, q2, rfl, rfl, rfl, h2, h2r⟩ := trodAll_cons h1r
  obtain ⟨v3, vs3, d3, ds3, p3, q3, rfl, rfl, rfl, h3, h3r⟩ := trodAll_cons h2r
  obtain ⟨v4, vs4, d4, ds4, p4, q4, rfl, rfl, rfl, h4, h4r⟩ := trodAll_cons h3r
  obtain ⟨rfl, rfl, rfl⟩ := trodAll_nil h4r
  obtain ⟨a0, qa0, ra0, ma0, sa0⟩ := open_sl Try.underlying22 (by kernel_rfl) dec3 (hval 0 22 v0 rfl rfl) h0
  obtain ⟨a1, qa1, ra1, ma1, sa1⟩ := open_sl Try.underlying72 (by kernel_rfl) dec2 (hval 1 72 v1 rfl rfl) h1
  obtain ⟨a2, qa2, ra2⟩ := open_ag decSo (.inl ⟨_, Try.underlying34⟩) (hval 2 34 v2 rfl rfl) h2
  obtain ⟨a3, qa3, ra3⟩ := open_one (dec_int Try.underlying3) (.inl ⟨_, Try.underlying3⟩) (hval 3 3 v3 rfl rfl) h3
  obtain ⟨a4, qa4, ra4⟩ := open_ag dec4 (.inr ⟨_, _, Try.underlying28⟩) (hval 4 28 v4 rfl rfl) h4
  refine post_law (tb := 4) (al := [.sl 3 (encT a0), .sl 2 (encP a1), .agg (encSo a2), .int .i64 a3, .agg (cellsI a4)]) Try.laidOut (by kernel_rfl) hW rfl (by kernel_rfl) Try.underlying4 rfl (k11 a0 a1 ma0 ma1 a2.fd a2.set a2.gain a2.pf qa2.1 qa2.2 a3 (okI_of_wf qa3) a4 qa4.1 qa4.2) rfl (fun g h => (h rfl).elim) ?_
  intro i hi
  match i, hi with
  | 0, _ => exact ra0
  | 1, _ => exact ra1
  | 2, _ => exact ra2
  | 3, _ => exact ra3
  | 4, _ => exact ra4
  | i + 5, h => exact absurd h (by simp)
theorem reachProved_holds : Rows.ReachProvedSaid :=
  OpenClaim.holds_of_wide 11 Try.f11 rfl rfl rfl rfl rfl rfl rfl ⟨rfl, rfl, rfl, rfl, rfl⟩ rfl rfl rfl rfl rfl (by kernel_rfl) Try.func11 (by kernel_rfl)
    (of_decide_eq_true (by kernel_rfl)) (by unfold Func.isWrapper; first | (rw [if_pos (by decide +kernel)]; kernel_rfl) | (rw [if_neg (by decide +kernel)]; exact ⟨rfl, rfl⟩))
    (fun os started H enc _ => reachProved_lifted os started H enc)
end Go.Proofs.Ytfamkbofdamkkaa
