/- The law PlanRefused: it returns true at every input, and what was handed in reads as it did; the listed tables hold what the program's text lays. -/
import Derived.Test.YtaaongcfeldcoaaDoorRows
import Derived.Test.YtaaongcfeldcoaaDoorCards
import Derived.Test.YtaaongcfeldcoaaDoorTie
import Derived.Test.YtaaongcfeldcoaaDoorKRf
import Derived.SevenTiedAt
namespace Go.Proofs.YtaaongcfeldcoaaDoor
open Go.ChangeShapes Go.WideShapes Go.ChangeAt Go.RowKit
set_option linter.unusedVariables false
set_option maxRecDepth 100000
theorem planRefused_lifted (os : Os) (started : os.Started) (H : Type) (enc : TypeId × Value → H) :
    ReturnsInHanded {} Tryd.checked os 4 .any (fun w args => (Rows.planRefusedSpec.pre enc Tryd.prog Tryd.f4 [] false w args ∧ laidMetH Tryd.prog laid1 w) ∧ sizedMet enc Tryd.prog Tryd.f4 (OpenSpec.ofChange Rows.planRefusedSpec) false w args) (Rows.planRefusedSpec.post enc Tryd.prog Tryd.f4 false true false false) := by
  refine returnsInHanded_of_change_and (C := Tryd.checked) (X := fun w _ => laidMetH Tryd.prog laid1 w) (fun _ _ _ hh h => h.of_heap hh) Tryd.own started (by kernel_rfl) Tryd.func4
    (ChangeSpec.witness_shaped (enc := enc) (C := Tryd.checked) (os := os) (X := fun w _ => laidMetH Tryd.prog laid1 w) false (World.doorLaid Tryd.prog 400 os) #[.agg #[.int .i64 0, .slice none 0 0, .slice none 0 0, .int .i64 0, .int .i64 0], .int .i64 0, .int .i64 0] 8 rfl (World.shaped_of_RefB (by kernel_rfl) (by kernel_rfl)) (by kernel_rfl) (by kernel_rfl) (by kernel_rfl) (door_met os _)) ?_
  intro W base args ds gs before hval0 hW _ _ hL _
  have hval : ∀ (j : Nat) t v, Tryd.f4.params[j]? = some t → args[j]? = some v → Value.okWide Tryd.prog W .any base t v := hval0
  clear hval0
  have hW0 := hW
  obtain ⟨p, q, hA0, hV, _, _, _⟩ := hW0
  obtain ⟨args⟩ := args
  have hA : DataW.TrodAll enc Tryd.prog W 0 (fun _ => true) true Tryd.f4.params.toList args ds p := hA0
  clear hA0
  obtain ⟨rfl, rfl⟩ := trodVars_none hV
  rw [Tryd.params4] at hA hval
  obtain ⟨v0, vs0, d0, ds0, p0, q0, rfl, rfl, rfl, h0, h0r⟩ := trodAll_cons hA
  obtain ⟨v1, vs1, d1, ds1, p1, q1, rfl, rfl, rfl, h1, h1r⟩ := trodAll_cons h0r
  obtain ⟨v2, vs2, d2, ds2, p2, q2, rfl, rfl, rfl, h2, h2r⟩ := trodAll_cons h1r
  obtain ⟨rfl, rfl, rfl⟩ := trodAll_nil h2r
  obtain ⟨a0, qa0, ra0⟩ := open_ag decNb (.inl ⟨_, Tryd.underlying25⟩) (hval 0 25 v0 rfl rfl) h0
  obtain ⟨a1, qa1, ra1⟩ := open_one (dec_int Tryd.underlying3) (.inl ⟨_, Tryd.underlying3⟩) (hval 1 3 v1 rfl rfl) h1
  obtain ⟨a2, qa2, ra2⟩ := open_one (dec_int Tryd.underlying3) (.inl ⟨_, Tryd.underlying3⟩) (hval 2 3 v2 rfl rfl) h2
  refine post_law (tb := 4) (al := [.agg (encNb a0), .int .i64 a1, .int .i64 a2]) Tryd.laidOut (by kernel_rfl) hW rfl (by kernel_rfl) Tryd.underlying4 rfl (k4 a0.fr a0.rs a0.os a0.ap a0.mu qa0.2.1.1 qa0.2.2.1 qa0.2.1.2 qa0.2.2.2 qa0.1 a1 a2 (okI_of_wf qa1) (okI_of_wf qa2)) rfl (gtc_of_laid hL) ?_
  intro i hi
  match i, hi with
  | 0, _ => exact ra0
  | 1, _ => exact ra1
  | 2, _ => exact ra2
  | i + 3, h => exact absurd h (by simp)
theorem planRefused_said : Rows.PlanRefusedSaid :=
  OpenClaim.holds_of_wide 4 Tryd.f4 rfl rfl rfl rfl rfl rfl rfl ⟨rfl, rfl, rfl, rfl, rfl⟩ rfl rfl rfl rfl rfl (by kernel_rfl) Tryd.func4 (by kernel_rfl)
    (of_decide_eq_true (by kernel_rfl)) (by unfold Func.isWrapper; first | (rw [if_pos (by decide +kernel)]; kernel_rfl) | (rw [if_neg (by decide +kernel)]; exact ⟨rfl, rfl⟩))
    (fun os started H enc _ => planRefused_lifted os started H enc)
theorem planRefused_holds : Rows.PlanRefusedCardSaid :=
  Claim7.holds_tied_plain_at .later [] [.funcs] true (true, "e1be3643b0ea18599b1089eca6ad4d359a2da325996e87dae821b7fe14053fdb") false
    planRefused_said (fun _ h => by cases h) (by kernel_rfl) (fun _ h => by cases h) planRefused_row_tie rfl ⟨rfl, rfl⟩ (by kernel_rfl) rfl
    (fun f fn hf hfn => by
      obtain rfl : f = 4 := Option.some.inj ((show Tryd.prog.funcNamed "aircheck/airchecklaw25.PlanRefused" = some 4 by kernel_rfl).symm.trans hf) |>.symm
      obtain rfl : fn = Tryd.f4 := (Option.some.inj (Tryd.func4.symm.trans hfn)).symm
      exact ⟨by kernel_rfl, fun j t ht => by
        rw [Tryd.params4] at ht
        have hm : t ∈ [25, 3, 3] := by simpa using Array.mem_of_getElem? ht
        have hall : ([25, 3, 3].all fun u => !Tryd.prog.wantsStandIn u) = true := by kernel_rfl
        exact (show Tryd.prog.wantsStandIn t = false by simpa using List.all_eq_true.1 hall t hm)⟩)
    (by kernel_rfl)
end Go.Proofs.YtaaongcfeldcoaaDoor
