/- The law ReachMatchesReference, out of its contract. -/
import Derived.Test.YtfamkbofdamkkaaGreatRows
import Derived.Test.YtfamkbofdamkkaaGreatKZb
import Derived.Test.YtfamkbofdamkkaaGreatKZf
namespace Go.Proofs.YtfamkbofdamkkaaGreat
open Go.ChangeShapes Go.WideShapes Go.ChangeAt Go.RowKit
set_option linter.unusedVariables false
set_option maxRecDepth 100000 in
theorem reachMatchesReference_lifted (os : Os) (started : os.Started) (H : Type) (enc : TypeId × Value → H) :
  ReturnsInHanded {} Tryz.checked os 3 .any (Rows.reachMatchesReferenceSpec.pre6 enc Tryz.prog Tryz.f3 Rows.reachMatchesReferenceRow.domain false) (Rows.reachMatchesReferenceSpec.post enc Tryz.prog Tryz.f3 false true false false) := by
 refine returnsInHanded_of_change_sized (C := Tryz.checked) Tryz.own started (by kernel_rfl) Tryz.func3 (ChangeSpec.witness6 (enc := enc) (C := Tryz.checked) false ⟨#[], #[.slice none 0 0, .slice none 0 0, .slice none 0 0, .agg (Array.replicate 16 (.int .i64 0)), .int .i64 0, .agg #[.bool false, .int .i64 0, .int .i64 0, .slice none 0 0], .agg (Array.replicate 4 (.int .i64 0))], []⟩ 8 (by kernel_rfl) (by kernel_rfl) (by kernel_rfl) (by kernel_rfl)) ?_
 intro W base args ds gs before hval0 hW _ hsz0 _
 have hval : ∀ (j : Nat) t v, Tryz.f3.params[j]? = some t → args[j]? = some v → Value.okWide Tryz.prog W .any base t v := hval0
 have hsz : (DataW.weightsEach Tryz.prog (Tryz.f3.params.toList ++ []) (ds ++ gs)).all (· ≤ reachBytes) = true := hsz0
 clear hval0 hsz0
 have hW0 := hW
 obtain ⟨p, q, hA0, hV, _, _, _⟩ := hW0
 obtain ⟨args⟩ := args
 have hA : DataW.TrodAll enc Tryz.prog W 0 (fun _ => true) true Tryz.f3.params.toList args ds p := hA0
 clear hA0
 obtain ⟨rfl, rfl⟩ := trodVars_none hV
 rw [Tryz.params3] at hA hval hsz
 obtain ⟨v0, vs0, d0, ds0, p0, q0, rfl, rfl, rfl, h0, h0r⟩ := trodAll_cons hA
 obtain ⟨v1, vs1, d1, ds1, p1, q1, rfl, rfl, rfl, h1, h1r⟩ := trodAll_cons h0r
 obtain ⟨v2, vs2, d2, ds2, p2, q2, rfl, rfl, rfl, h2, h2r⟩ := trodAll_cons h1r
 obtain ⟨v3, vs3, d3, ds3, p3, q3, rfl, rfl, rfl, h3, h3r⟩ := trodAll_cons h2r
 obtain ⟨v4, vs4, d4, ds4, p4, q4, rfl, rfl, rfl, h4, h4r⟩ := trodAll_cons h3r
 obtain ⟨v5, vs5, d5, ds5, p5, q5, rfl, rfl, rfl, h5, h5r⟩ := trodAll_cons h4r
 obtain ⟨v6, vs6, d6, ds6, p6, q6, rfl, rfl, rfl, h6, h6r⟩ := trodAll_cons h5r
 obtain ⟨rfl, rfl, rfl⟩ := trodAll_nil h6r
 obtain ⟨a0, qa0, ra0, ma0, sa0⟩ := open_sl Tryz.underlying22 (by kernel_rfl) dec3 (hval 0 22 v0 rfl rfl) h0
 obtain ⟨a1, qa1, ra1, ma1, sa1⟩ := open_sl Tryz.underlying23 (by kernel_rfl) dec2 (hval 1 23 v1 rfl rfl) h1
 obtain ⟨a2, qa2, ra2, ma2, sa2⟩ := open_sl Tryz.underlying24 (by kernel_rfl) dec16 (hval 2 24 v2 rfl rfl) h2
 obtain ⟨a3, qa3, ra3⟩ := open_ag dec16 (.inr ⟨_, _, Tryz.underlying26⟩) (hval 3 26 v3 rfl rfl) h3
 obtain ⟨a4, qa4, ra4⟩ := open_one (dec_int Tryz.underlying3) (.inl ⟨_, Tryz.underlying3⟩) (hval 4 3 v4 rfl rfl) h4
 obtain ⟨a5, qa5, ra5⟩ := open_ag decSo (.inl ⟨_, Tryz.underlying29⟩) (hval 5 29 v5 rfl rfl) h5
 obtain ⟨a6, qa6, ra6⟩ := open_ag dec4 (.inr ⟨_, _, Tryz.underlying30⟩) (hval 6 30 v6 rfl rfl) h6
 refine post_law (tb := 4) (al := [.sl 3 (encT a0), .sl 2 (encP a1), .sl 16 (encA a2), .agg (cellsI a3), .int .i64 a4, .agg (encSo a5), .agg (cellsI a6)]) Tryz.laidOut (by kernel_rfl) hW rfl (by kernel_rfl) Tryz.underlying4 rfl (z3 a0 a1 ma0 ma1 a2 ⟨ma2, fun a h => (qa2 a h).1⟩ a3 qa3.1 a4 a5.fd a5.set a5.gain a5.pf qa5.1 qa5.2 a6 qa6.1 qa6.2) rfl (fun g h => (h rfl).elim) ?_
 intro i hi
 match i, hi with
 | 0, _ => exact ra0
 | 1, _ => exact ra1
 | 2, _ => exact ra2
 | 3, _ => exact ra3
 | 4, _ => exact ra4
 | 5, _ => exact ra5
 | 6, _ => exact ra6
 | i + 7, h => exact absurd h (by simp)
theorem reachMatchesReference_holds : Rows.ReachMatchesReferenceSaid :=
 OpenClaim.holds_of_wide 3 Tryz.f3 rfl rfl rfl rfl rfl rfl rfl ⟨rfl, rfl, rfl, rfl, rfl⟩ rfl rfl rfl rfl rfl (by kernel_rfl) Tryz.func3 (by kernel_rfl)
  (of_decide_eq_true (by kernel_rfl)) (by unfold Func.isWrapper; first | (rw [if_pos (by decide +kernel)]; kernel_rfl) | (rw [if_neg (by decide +kernel)]; exact ⟨rfl, rfl⟩))
  (fun os started H enc _ => reachMatchesReference_lifted os started H enc)
end Go.Proofs.YtfamkbofdamkkaaGreat
