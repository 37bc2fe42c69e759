/- The law CoreMatchesReference: it returns true at every input, and what was handed in reads as it did; the listed tables hold what the program's text lays. -/
import Derived.Test.YtgmgifmfhpoglaaDoorRows
import Derived.Test.YtgmgifmfhpoglaaDoorCards
import Derived.Test.YtgmgifmfhpoglaaDoorTie
import Derived.Test.YtgmgifmfhpoglaaDoorKMf
import Derived.SevenTiedAt
namespace Go.Proofs.YtgmgifmfhpoglaaDoor
open Go.ChangeShapes Go.WideShapes Go.ChangeAt Go.RowKit
set_option linter.unusedVariables false
set_option maxRecDepth 100000
theorem coreMatchesReference_lifted (os : Os) (started : os.Started) (H : Type) (enc : TypeId × Value → H) :
    ReturnsInHanded {} Tryd.checked os 3 .any (fun w args => (Rows.coreMatchesReferenceSpec.pre enc Tryd.prog Tryd.f3 [] false w args ∧ laidMetH Tryd.prog laid2 w) ∧ sizedMet enc Tryd.prog Tryd.f3 (OpenSpec.ofChange Rows.coreMatchesReferenceSpec) false w args) (Rows.coreMatchesReferenceSpec.post enc Tryd.prog Tryd.f3 false true false false) := by
  refine returnsInHanded_of_change_and (C := Tryd.checked) (X := fun w _ => laidMetH Tryd.prog laid2 w) (fun _ _ _ hh h => h.of_heap hh) Tryd.own started (by kernel_rfl) Tryd.func3
    (ChangeSpec.witness_shaped (enc := enc) (C := Tryd.checked) (os := os) (X := fun w _ => laidMetH Tryd.prog laid2 w) false (World.doorLaid Tryd.prog 400 os) #[.agg #[.int .i64 0, .slice none 0 0, .slice none 0 0], .int .i64 0, .slice none 0 0, .agg (Array.replicate 8 (.int .i64 0)), .slice none 0 0, .int .i64 0] 8 rfl (World.shaped_of_RefB (by kernel_rfl) (by kernel_rfl)) (by kernel_rfl) (by kernel_rfl) (by kernel_rfl) (door_met os _)) ?_
  intro W base args ds gs before hval0 hW _ _ hL _
  have hval : ∀ (j : Nat) t v, Tryd.f3.params[j]? = some t → args[j]? = some v → Value.okWide Tryd.prog W .any base t v := hval0
  clear hval0
  have hW0 := hW
  obtain ⟨p, q, hA0, hV, _, _, _⟩ := hW0
  obtain ⟨args⟩ := args
  have hA : DataW.TrodAll enc Tryd.prog W 0 (fun _ => true) true Tryd.f3.params.toList args ds p := hA0
  clear hA0
  obtain ⟨rfl, rfl⟩ := trodVars_none hV
  rw [Tryd.params3] at hA hval
  obtain ⟨v0, vs0, d0, ds0, p0, q0, rfl, rfl, rfl, h0, h0r⟩ := trodAll_cons hA
  obtain ⟨v1, vs1, d1, ds1, p1, q1, rfl, rfl, rfl, h1, h1r⟩ := trodAll_cons h0r
  obtain ⟨v2, vs2, d2, ds2, p2, q2, rfl, rfl, rfl, h2, h2r⟩ := trodAll_cons h1r
  obtain ⟨v3, vs3, d3, ds3, p3, q3, rfl, rfl, rfl, h3, h3r⟩ := trodAll_cons h2r
  obtain ⟨v4, vs4, d4, ds4, p4, q4, rfl, rfl, rfl, h4, h4r⟩ := trodAll_cons h3r
  obtain ⟨v5, vs5, d5, ds5, p5, q5, rfl, rfl, rfl, h5, h5r⟩ := trodAll_cons h4r
  obtain ⟨rfl, rfl, rfl⟩ := trodAll_nil h5r
  obtain ⟨a0, qa0, ra0⟩ := open_ag decPg (.inl ⟨_, Tryd.underlying25⟩) (hval 0 25 v0 rfl rfl) h0
  obtain ⟨a1, qa1, ra1⟩ := open_one (dec_int Tryd.underlying3) (.inl ⟨_, Tryd.underlying3⟩) (hval 1 3 v1 rfl rfl) h1
  obtain ⟨a2, qa2, ra2, ma2, sa2⟩ := open_sl Tryd.underlying26 (by kernel_rfl) dec3 (hval 2 26 v2 rfl rfl) h2
  obtain ⟨a3, qa3, ra3⟩ := open_ag dec8 (.inr ⟨_, _, Tryd.underlying27⟩) (hval 3 27 v3 rfl rfl) h3
  obtain ⟨a4, qa4, ra4, ma4, sa4⟩ := open_sl Tryd.underlying23 (by kernel_rfl) (dec_int Tryd.underlying3) (hval 4 23 v4 rfl rfl) h4
  obtain ⟨a5, qa5, ra5⟩ := open_one (dec_int Tryd.underlying3) (.inl ⟨_, Tryd.underlying3⟩) (hval 5 3 v5 rfl rfl) h5
  refine post_law (tb := 4) (al := [.agg (encPg a0), .int .i64 a1, .sl 3 (encT a2), .agg (cellsI a3), .sl 1 (encI a4), .int .i64 a5]) Tryd.laidOut (by kernel_rfl) hW rfl (by kernel_rfl) Tryd.underlying4 rfl (k3 a0 ⟨qa0.1, qa0.2.1⟩ a1 a2 a3 (okI_of_wf qa1) ma2 qa2 qa3.1 qa3.2 a4 ma4 a5 (okI_of_wf qa5)) rfl (gtc_of_laid hL) ?_
  intro i hi
  match i, hi with
  | 0, _ => exact ra0
  | 1, _ => exact ra1
  | 2, _ => exact ra2
  | 3, _ => exact ra3
  | 4, _ => exact ra4
  | 5, _ => exact ra5
  | i + 6, h => exact absurd h (by simp)
theorem coreMatchesReference_said : Rows.CoreMatchesReferenceSaid :=
  OpenClaim.holds_of_wide 3 Tryd.f3 rfl rfl rfl rfl rfl rfl rfl ⟨rfl, rfl, rfl, rfl, rfl⟩ rfl rfl rfl rfl rfl (by kernel_rfl) Tryd.func3 (by kernel_rfl)
    (of_decide_eq_true (by kernel_rfl)) (by unfold Func.isWrapper; first | (rw [if_pos (by decide +kernel)]; kernel_rfl) | (rw [if_neg (by decide +kernel)]; exact ⟨rfl, rfl⟩))
    (fun os started H enc _ => coreMatchesReference_lifted os started H enc)
theorem coreMatchesReference_holds : Rows.CoreMatchesReferenceCardSaid :=
  Claim7.holds_tied_plain_at .later [] [.data, .data] true (true, "0b2fa41a6a5a1ab3c33f142002b5b775d90f75196e2fcbb5820996c7531c1cd6") false
    coreMatchesReference_said (fun _ h => by cases h) (by kernel_rfl) (fun _ h => by cases h) coreMatchesReference_row_tie rfl ⟨rfl, rfl⟩ (by kernel_rfl) rfl
    (fun f fn hf hfn => by
      obtain rfl : f = 3 := Option.some.inj ((show Tryd.prog.funcNamed "aircheck/airchecklaw27.CoreMatchesReference" = some 3 by kernel_rfl).symm.trans hf) |>.symm
      obtain rfl : fn = Tryd.f3 := (Option.some.inj (Tryd.func3.symm.trans hfn)).symm
      exact ⟨by kernel_rfl, fun j t ht => by
        rw [Tryd.params3] at ht
        have hm : t ∈ [25, 3, 26, 27, 23, 3] := by simpa using Array.mem_of_getElem? ht
        have hall : ([25, 3, 26, 27, 23, 3].all fun u => !Tryd.prog.wantsStandIn u) = true := by kernel_rfl
        exact (show Tryd.prog.wantsStandIn t = false by simpa using List.all_eq_true.1 hall t hm)⟩)
    (by kernel_rfl)
end Go.Proofs.YtgmgifmfhpoglaaDoor
