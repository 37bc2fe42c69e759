/- The law TopPlans: it returns true at every input, and what was handed in reads as it did; the listed tables hold what the program's text lays. -/
import Derived.Test.YtfamkbofdamkkaaDoorRows
import Derived.Test.YtfamkbofdamkkaaDoorCards
import Derived.Test.YtfamkbofdamkkaaDoorTie
import Derived.Test.YtfamkbofdamkkaaDoorKTe
import Derived.SevenTiedAt
namespace Go.Proofs.YtfamkbofdamkkaaDoor
open Go.ChangeShapes Go.WideShapes Go.ChangeAt Go.RowKit
set_option linter.unusedVariables false
set_option maxRecDepth 100000
theorem topPlans_lifted (os : Os) (started : os.Started) (H : Type) (enc : TypeId × Value → H) :
  ReturnsInHanded {} Tryd.checked os 3 .any (fun w args => (Rows.topPlansSpec.pre enc Tryd.prog Tryd.f3 [] false w args ∧ laidMetH Tryd.prog laid1 w) ∧ sizedMet enc Tryd.prog Tryd.f3 (OpenSpec.ofChange Rows.topPlansSpec) false w args) (Rows.topPlansSpec.post enc Tryd.prog Tryd.f3 false true false false) := by
 refine returnsInHanded_of_change_and (C := Tryd.checked) (X := fun w _ => laidMetH Tryd.prog laid1 w) (fun _ _ _ hh h => h.of_heap hh) Tryd.own started (by kernel_rfl) Tryd.func3
  (ChangeSpec.witness_shaped (enc := enc) (C := Tryd.checked) (os := os) (X := fun w _ => laidMetH Tryd.prog laid1 w) false (World.doorLaid Tryd.prog 400 os) #[.agg #[.int .i64 0, .slice none 0 0, .slice none 0 0, .int .i64 0, .int .i64 0], .int .i64 0, .int .i64 0, .slice none 0 0, .int .i64 0] 8 rfl (World.shaped_of_RefB (by kernel_rfl) (by kernel_rfl)) (by kernel_rfl) (by kernel_rfl) (by kernel_rfl) (door_met os _)) ?_
 intro W base args ds gs before hval0 hW _ _ hL _
 have hval : ∀ (j : Nat) t v, Tryd.f3.params[j]? = some t → args[j]? = some v → Value.okWide Tryd.prog W .any base t v := hval0
 clear hval0
 have hW0 := hW
 obtain ⟨p, q, hA0, hV, _, _, _⟩ := hW0
 obtain ⟨args⟩ := args
 have hA : DataW.TrodAll enc Tryd.prog W 0 (fun _ => true) true Tryd.f3.params.toList args ds p := hA0
 clear hA0
 obtain ⟨rfl, rfl⟩ := trodVars_none hV
 rw [Tryd.params3] at hA hval
 obtain ⟨v0, vs0, d0, ds0, p0, q0, rfl, rfl, rfl, h0, h0r⟩ := trodAll_cons hA
 obtain ⟨v1, vs1, d1, ds1, p1, q1, rfl, rfl, rfl, h1, h1r⟩ := trodAll_cons h0r
 obtain ⟨v2, vs2, d2, ds2, p2, q2, rfl, rfl, rfl, h2, h2r⟩ := trodAll_cons h1r
 obtain ⟨v3, vs3, d3, ds3, p3, q3, rfl, rfl, rfl, h3, h3r⟩ := trodAll_cons h2r
 obtain ⟨v4, vs4, d4, ds4, p4, q4, rfl, rfl, rfl, h4, h4r⟩ := trodAll_cons h3r
 obtain ⟨rfl, rfl, rfl⟩ := trodAll_nil h4r
 obtain ⟨a0, qa0, ra0⟩ := open_ag decNb (.inl ⟨_, Tryd.underlying25⟩) (hval 0 25 v0 rfl rfl) h0
 obtain ⟨a1, qa1, ra1⟩ := open_one (dec_int Tryd.underlying3) (.inl ⟨_, Tryd.underlying3⟩) (hval 1 3 v1 rfl rfl) h1
 obtain ⟨a2, qa2, ra2⟩ := open_one (dec_int Tryd.underlying3) (.inl ⟨_, Tryd.underlying3⟩) (hval 2 3 v2 rfl rfl) h2
 obtain ⟨a3, qa3, ra3, ma3, sa3⟩ := open_sl Tryd.underlying26 (by kernel_rfl) decSg (hval 3 26 v3 rfl rfl) h3
 obtain ⟨a4, qa4, ra4⟩ := open_one (dec_int Tryd.underlying3) (.inl ⟨_, Tryd.underlying3⟩) (hval 4 3 v4 rfl rfl) h4
 refine post_law (tb := 4) (al := [.agg (encNb a0), .int .i64 a1, .int .i64 a2, .sl 4 (encSgs a3), .int .i64 a4]) Tryd.laidOut (by kernel_rfl) hW rfl (by kernel_rfl) Tryd.underlying4 rfl (kt3 a0.fr a0.rs a0.os a0.ap a0.mu qa0.2.1.1 qa0.2.2.1 qa0.2.1.2 qa0.2.2.2 qa0.1 a1 (okI_of_wf qa1) a2 (okI_of_wf qa2) a3 ma3 qa3 a4 (okI_of_wf qa4)) rfl (gtc_of_laid hL) ?_
 intro i hi
 match i, hi with
 | 0, _ => exact ra0
 | 1, _ => exact ra1
 | 2, _ => exact ra2
 | 3, _ => exact ra3
 | 4, _ => exact ra4
 | i + 5, h => exact absurd h (by simp)
theorem topPlans_said : Rows.TopPlansSaid :=
 OpenClaim.holds_of_wide 3 Tryd.f3 rfl rfl rfl rfl rfl rfl rfl ⟨rfl, rfl, rfl, rfl, rfl⟩ rfl rfl rfl rfl rfl (by kernel_rfl) Tryd.func3 (by kernel_rfl)
  (of_decide_eq_true (by kernel_rfl)) (by unfold Func.isWrapper; first | (rw [if_pos (by decide +kernel)]; kernel_rfl) | (rw [if_neg (by decide +kernel)]; exact ⟨rfl, rfl⟩))
  (fun os started H enc _ => topPlans_lifted os started H enc)
theorem topPlans_holds : Rows.TopPlansCardSaid :=
 Claim7.holds_tied_plain_at .later [] [.funcs] true (true, "f294219f49f0f95a84723a2cffcb9f0e4c953cd3741df5397dbba97fa91535f6") true
  topPlans_said (fun _ h => by cases h) (by kernel_rfl) (fun _ h => by cases h) topPlans_row_tie rfl ⟨rfl, rfl⟩ (by kernel_rfl) rfl
  (fun f fn hf hfn => by
   obtain rfl : f = 3 := Option.some.inj ((show Tryd.prog.funcNamed "aircheck/airchecktop.TopPlans" = some 3 by kernel_rfl).symm.trans hf) |>.symm
   obtain rfl : fn = Tryd.f3 := (Option.some.inj (Tryd.func3.symm.trans hfn)).symm
   exact ⟨by kernel_rfl, fun j t ht => by
    rw [Tryd.params3] at ht
    have hm : t ∈ [25, 3, 3, 26, 3] := by simpa using Array.mem_of_getElem? ht
    have hall : ([25, 3, 3, 26, 3].all fun u => !Tryd.prog.wantsStandIn u) = true := by kernel_rfl
    exact (show Tryd.prog.wantsStandIn t = false by simpa using List.all_eq_true.1 hall t hm)⟩)
  (by kernel_rfl)
end Go.Proofs.YtfamkbofdamkkaaDoor
