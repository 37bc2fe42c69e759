/- The law CoreProves: it returns true at every input, and what was handed in reads as it did; the listed tables hold what the program's text lays. -/
import Derived.Test.YtfamkbofdamkkaaGreatDoorRows
import Derived.Test.YtfamkbofdamkkaaGreatDoorCards
import Derived.Test.YtfamkbofdamkkaaGreatDoorTie
import Derived.Test.YtfamkbofdamkkaaGreatDoorKUd
import Derived.Test.YtfamkbofdamkkaaGreatDoorKUe
import Derived.SevenTiedAt
namespace Go.Proofs.YtfamkbofdamkkaaGreatDoor
open Go.ChangeShapes Go.WideShapes Go.ChangeAt Go.RowKit
set_option linter.unusedVariables false
set_option maxRecDepth 100000
theorem coreProves_lifted (os : Os) (started : os.Started) (H : Type) (enc : TypeId × Value → H) :
  ReturnsInHanded {} Tryz.checked os 3 .any (fun w args => (Rows.coreProvesSpec.pre enc Tryz.prog Tryz.f3 [] false w args ∧ laidMetH Tryz.prog laid2 w) ∧ sizedMet enc Tryz.prog Tryz.f3 (OpenSpec.ofChange Rows.coreProvesSpec) false w args) (Rows.coreProvesSpec.post enc Tryz.prog Tryz.f3 false true false false) := by
 refine returnsInHanded_of_change_and (C := Tryz.checked) (X := fun w _ => laidMetH Tryz.prog laid2 w) (fun _ _ _ hh h => h.of_heap hh) Tryz.own started (by kernel_rfl) Tryz.func3
  (ChangeSpec.witness_shaped (enc := enc) (C := Tryz.checked) (os := os) (X := fun w _ => laidMetH Tryz.prog laid2 w) false (World.doorLaid Tryz.prog 400 os) #[.int .i64 0, .slice none 0 0, .agg (Array.replicate 8 (.int .i64 0)), .int .i64 0] 8 rfl (World.shaped_of_RefB (by kernel_rfl) (by kernel_rfl)) (by kernel_rfl) (by kernel_rfl) (by kernel_rfl) (door_met os _)) ?_
 intro W base args ds gs before hval0 hW _ _ hL _
 have hval : ∀ (j : Nat) t v, Tryz.f3.params[j]? = some t → args[j]? = some v → Value.okWide Tryz.prog W .any base t v := hval0
 clear hval0
 have hW0 := hW
 obtain ⟨p, q, hA0, hV, _, _, _⟩ := hW0
 obtain ⟨args⟩ := args
 have hA : DataW.TrodAll enc Tryz.prog W 0 (fun _ => true) true Tryz.f3.params.toList args ds p := hA0
 clear hA0
 obtain ⟨rfl, rfl⟩ := trodVars_none hV
 rw [Tryz.params3] at hA hval
 obtain ⟨v0, vs0, d0, ds0, p0, q0, rfl, rfl, rfl, h0, h0r⟩ := trodAll_cons hA
 obtain ⟨v1, vs1, d1, ds1, p1, q1, rfl, rfl, rfl, h1, h1r⟩ := trodAll_cons h0r
 obtain ⟨v2, vs2, d2, ds2, p2, q2, rfl, rfl, rfl, h2, h2r⟩ := trodAll_cons h1r
 obtain ⟨v3, vs3, d3, ds3, p3, q3, rfl, rfl, rfl, h3, h3r⟩ := trodAll_cons h2r
 obtain ⟨rfl, rfl, rfl⟩ := trodAll_nil h3r
 obtain ⟨a0, qa0, ra0⟩ := open_one (dec_int Tryz.underlying3) (.inl ⟨_, Tryz.underlying3⟩) (hval 0 3 v0 rfl rfl) h0
 obtain ⟨a1, qa1, ra1, ma1, sa1⟩ := open_sl Tryz.underlying22 (by kernel_rfl) dec3 (hval 1 22 v1 rfl rfl) h1
 obtain ⟨a2, qa2, ra2⟩ := open_ag dec8 (.inr ⟨_, _, Tryz.underlying23⟩) (hval 2 23 v2 rfl rfl) h2
 obtain ⟨a3, qa3, ra3⟩ := open_one (dec_int Tryz.underlying3) (.inl ⟨_, Tryz.underlying3⟩) (hval 3 3 v3 rfl rfl) h3
 refine post_law (tb := 4) (al := [.int .i64 a0, .sl 3 (encT a1), .agg (cellsI a2), .int .i64 a3]) Tryz.laidOut (by kernel_rfl) hW rfl (by kernel_rfl) Tryz.underlying4 rfl (kc3 a0 a1 a2 (okI_of_wf qa0) ma1 qa1 qa2.1 qa2.2 a3 (okI_of_wf qa3)) rfl (gtc_of_laid hL) ?_
 intro i hi
 match i, hi with
 | 0, _ => exact ra0
 | 1, _ => exact ra1
 | 2, _ => exact ra2
 | 3, _ => exact ra3
 | i + 4, h => exact absurd h (by simp)
theorem coreProves_said : Rows.CoreProvesSaid :=
 OpenClaim.holds_of_wide 3 Tryz.f3 rfl rfl rfl rfl rfl rfl rfl ⟨rfl, rfl, rfl, rfl, rfl⟩ rfl rfl rfl rfl rfl (by kernel_rfl) Tryz.func3 (by kernel_rfl)
  (of_decide_eq_true (by kernel_rfl)) (by unfold Func.isWrapper; first | (rw [if_pos (by decide +kernel)]; kernel_rfl) | (rw [if_neg (by decide +kernel)]; exact ⟨rfl, rfl⟩))
  (fun os started H enc _ => coreProves_lifted os started H enc)
theorem coreProves_holds : Rows.CoreProvesCardSaid :=
 Claim7.holds_tied_plain_at .later [] [.data, .data] true (true, "7ebcfc2c7c1c8010527ae622acf760221880e5084ff80bbc6ae945a9faf457e7") true
  coreProves_said (fun _ h => by cases h) (by kernel_rfl) (fun _ h => by cases h) coreProves_row_tie rfl ⟨rfl, rfl⟩ (by kernel_rfl) rfl
  (fun f fn hf hfn => by
   obtain rfl : f = 3 := Option.some.inj ((show Tryz.prog.funcNamed "aircheck/airchecklaw27.CoreProves" = some 3 by kernel_rfl).symm.trans hf) |>.symm
   obtain rfl : fn = Tryz.f3 := (Option.some.inj (Tryz.func3.symm.trans hfn)).symm
   exact ⟨by kernel_rfl, fun j t ht => by
    rw [Tryz.params3] at ht
    have hm : t ∈ [3, 22, 23, 3] := by simpa using Array.mem_of_getElem? ht
    have hall : ([3, 22, 23, 3].all fun u => !Tryz.prog.wantsStandIn u) = true := by kernel_rfl
    exact (show Tryz.prog.wantsStandIn t = false by simpa using List.all_eq_true.1 hall t hm)⟩)
  (by kernel_rfl)
end Go.Proofs.YtfamkbofdamkkaaGreatDoor
