import Derived.Test.YtpaielaniekdbaaF21
import Derived.Test.YtpaielaniekdbaaP21
import Derived.Test.YtpaielaniekdbaaPB21
import Derived.Test.YtpaielaniekdbaaPE21
import Derived.Test.YtpaielaniekdbaaPG21
import Derived.Test.YtpaielaniekdbaaPH21
import Derived.Test.YtpaielaniekdbaaPI21
import Derived.Test.YtpaielaniekdbaaC21a
import Derived.Test.YtpaielaniekdbaaC21b
import Derived.Test.YtpaielaniekdbaaC21c
import Derived.Test.YtpaielaniekdbaaC21d
import Derived.Test.YtpaielaniekdbaaC21e
import Derived.Test.YtpaielaniekdbaaC21f
import Derived.Test.YtpaielaniekdbaaAi21
namespace Go.Proofs.Ytpaielaniekdbaa
open Go.RowKit
set_option linter.unusedVariables false
set_option linter.unusedSimpArgs false
attribute [local go_sem] Nat.zero_add Nat.add_zero Nat.mul_one eq_self ne_eq not_true_eq_false not_false_eq_true decide_true decide_false decide_not Bool.false_eq_true List.filter_cons List.filter_nil true_and and_true beq_false beq_true Bool.not_true Bool.not_false Bool.and_true Bool.true_and Option.getD_some Option.getD_none imp_self implies_true Int.toNat_natCast List.cons_append List.nil_append List.map_cons List.map_nil List.length_cons List.length_nil List.getD_cons_zero List.getD_cons_succ List.drop_zero List.drop_succ_cons List.take_succ_cons List.take_zero
attribute [local go_sem] evO evDO isEff stp St.get St.slot St.put List.lookup un unL ofVal gof nth pickV pkB_false pkB_true binV unV loadV idxV fldV partV buildV fillV lenV sliV appV appR rowsV winV V.parts V.okp V.sc Mem.look_cons Mem.look_nil V.cl V.clL AObj.clo fzAll exps St.fz Mem.fz V.fz V.fzL AObj.fz arT_23 arT_24 arT_25 arT_26 arT_27 arT_32 arT_41 arT_49 arT_9 boolT_23 boolT_3 boolT_4 boolT_43 flatT_23 flatT_3 flatT_4 flatT_43 intT_3 intT_5 intT_61 intT_69 intT_71 lay_23 lay_26 lay_27 lay_29 lay_3 okF_10 okF_11 okF_12 okF_13 okF_14 okF_15 okF_16 okF_17 okF_18 okF_19 okF_20 okF_21 okF_22 okF_23 okF_24 okF_25 okF_26 okF_27 okF_28 okF_29 okF_3 okF_30 okF_31 okF_32 okF_33 okF_34 okF_35 okF_36 okF_37 okF_38 okF_39 okF_4 okF_40 okF_41 okF_42 okF_43 okF_44 okF_45 okF_46 okF_47 okF_48 okF_49 okF_5 okF_50 okF_51 okF_52 okF_53 okF_54 okF_55 okF_56 okF_57 okF_58 okF_59 okF_6 okF_60 okF_61 okF_62 okF_7 okF_8 okF_9 plT_23 plT_26 plT_29 slT_23 slT_24 slT_25 slT_26 slT_27 slT_32 slT_41 slT_49 stT_29_0 stT_29_1 zeroT_23 zeroT_26 zeroT_27 zeroT_29 zeroT_3
attribute [local go_sem] cellsI_fzL cellsI_uptoL List.getElem?_cons_zero List.getElem?_cons_succ List.zip_cons_cons List.zip_nil_left List.zip_nil_right Bool.false_and Bool.and_false cellsG_length moveA_length polyA_length discA_length agEq_cells cellsI_isI cellsI_length cellsI_sc cellsI_cl cellsI_rows cellsI_take cellsI_dropD cellsI_set cellsI_full encI_length encI_getD List.length_set List.length_replicate List.all_cons List.all_nil outA_length eachA_length outM_length getD_set_same List.set_set spl_nil0 spl_cons0 spl_succ encP_length encP_getD
attribute [local simp] turnL_length backL_length encP_length padP_length encI_length
theorem c14 (a : List Int) (ha : a.length = 16) : CallsA Try.prog 14 [.agg (cellsI a)] (.bool (validA a)) := by
  refine callsA_of_tr Try.func14 rfl (Nat.le_of_ble_eq_true rfl) ?_
  simp only [Try.results14, envOf, Nat.reduceAdd]
  refine tr_seq fun K1 hK1 => ?_
  refine tr_region [1] rfl rfl fun K hK => ?_
  iterate 2 (refine evR_step fun Kq hKq => ?_; simp (maxSteps := 4000000) (disch := first | assumption | omega | (simp only [go_sem, *]; done) | (simp only [go_sem, *]; omega)) only [go_sem, isE, isO, stpO, notIn, St.bare, Bool.false_and, Bool.true_and, Bool.and_true, Bool.not_true, Bool.not_false, Int.reduceToNat, Nat.reduceBEq, Nat.reduceEqDiff, Nat.reduceAdd, Nat.reduceMul, Nat.reduceLeDiff, Nat.reduceLT, Nat.reduceSub, ↓reduceIte, reduceCtorEq, ha]; (repeat (refine And.intro (by first | assumption | omega | decide | (simp; done) | (simp; omega)) ?_)); refine hKq _ ?_; clear hKq Kq)
  refine evR_nil (hK _ ?_); clear hK K
  simp only [St.norm, thenE, inBlkE, List.filterMap, List.lookup, Option.map, Nat.reduceBEq]
  refine hK1 _ ?_
  refine tr_seq fun K2 hK2 => ?_
  refine tr_seq fun K3 hK3 => ?_
  refine tr_region [1, 3] rfl rfl fun K hK => ?_
  iterate 1 (refine evR_step fun Kq hKq => ?_; simp (maxSteps := 4000000) (disch := first | assumption | omega | (simp only [go_sem, *]; done) | (simp only [go_sem, *]; omega)) only [go_sem, isE, isO, stpO, notIn, St.bare, Bool.false_and, Bool.true_and, Bool.and_true, Bool.not_true, Bool.not_false, Int.reduceToNat, Nat.reduceBEq, Nat.reduceEqDiff, Nat.reduceAdd, Nat.reduceMul, Nat.reduceLeDiff, Nat.reduceLT, Nat.reduceSub, ↓reduceIte, reduceCtorEq, ha]; (repeat (refine And.intro (by first | assumption | omega | decide | (simp; done) | (simp; omega)) ?_)); refine hKq _ ?_; clear hKq Kq)
  refine evR_nil (hK _ ?_); clear hK K
  simp only [St.norm, thenE, inBlkE, List.filterMap, List.lookup, Option.map, Nat.reduceBEq]
  refine hK3 _ ?_
  refine tr_block ?_
  -- loop 1: live [1, 3]
  refine tr_loopW (fun m σ => ∃ i, i + m = 16 ∧ (∀ j, j < i → 0 ≤ a.getD j 0 ∧ a.getD j 0 < 65536) ∧ σ = ⟨[(1, .ptr 0 0), (3, .int .i64 (i : Nat))], [(0, .cells (cellsI a))], 1⟩) (16) ?_ ?_
  · exact ⟨_, Wk.refl _, 0, by omega, (by intro j hj; omega), rfl⟩
  · rintro m σ ⟨i, hi, hall, rfl⟩ KL1 hKL1
    refine tr_seq fun K4 hK4 => ?_
    refine tr_seq fun K5 hK5 => ?_
    refine tr_region [1, 3, 5] rfl rfl fun K hK => ?_
    iterate 2 (refine evR_step fun Kq hKq => ?_; simp (maxSteps := 4000000) (disch := first | assumption | omega | (simp only [go_sem, *]; done) | (simp only [go_sem, *]; omega)) only [go_sem, isE, isO, stpO, notIn, St.bare, Bool.false_and, Bool.true_and, Bool.and_true, Bool.not_true, Bool.not_false, Int.reduceToNat, Nat.reduceBEq, Nat.reduceEqDiff, Nat.reduceAdd, Nat.reduceMul, Nat.reduceLeDiff, Nat.reduceLT, Nat.reduceSub, ↓reduceIte, reduceCtorEq, ha]; (repeat (refine And.intro (by first | assumption | omega | decide | (simp; done) | (simp; omega)) ?_)); refine hKq _ ?_; clear hKq Kq)
    refine evR_nil (hK _ ?_); clear hK K
    simp only [St.norm, thenE, inBlkE, List.filterMap, List.lookup, Option.map, Nat.reduceBEq]
    refine hK5 _ ?_
    refine tr_cond rfl (fun ht1 => ?_) (fun ht1 => ?_)
    · (try simp only [decide_eq_true_eq, decide_eq_false_iff_not, Bool.not_eq_true', Bool.not_eq_false', Bool.and_eq_true, Bool.or_eq_true, Bool.and_eq_false_iff, Bool.or_eq_false_iff, beq_true, beq_false] at ht1)
      have hil : i < 16 := by omega
      have hil2 : i < a.length := by omega
      refine tr_skip ?_
      (try simp only [thenE, inBlkE])
      refine hK4 _ ?_
      refine tr_seq fun K6 hK6 => ?_
      refine tr_block ?_
      refine tr_seq fun K7 hK7 => ?_
      refine tr_region [1, 3, 17] rfl rfl fun K hK => ?_
      iterate 5 (refine evR_step fun Kq hKq => ?_; simp (maxSteps := 4000000) (disch := first | assumption | omega | (simp only [go_sem, *]; done) | (simp only [go_sem, *]; omega)) only [go_sem, isE, isO, stpO, notIn, St.bare, Bool.false_and, Bool.true_and, Bool.and_true, Bool.not_true, Bool.not_false, Int.reduceToNat, Nat.reduceBEq, Nat.reduceEqDiff, Nat.reduceAdd, Nat.reduceMul, Nat.reduceLeDiff, Nat.reduceLT, Nat.reduceSub, ↓reduceIte, reduceCtorEq, ha, hil, hil2]; (repeat (refine And.intro (by first | assumption | omega | decide | (simp; done) | (simp; omega)) ?_)); refine hKq _ ?_; clear hKq Kq)
      iterate 4 (refine evR_step fun Kq hKq => ?_; refine evO_guard (gb := ?_) (v0 := ?_) rfl ?_ ?_ ?_; rotate_left 1; (· intro K3 h3; simp (maxSteps := 4000000) (disch := first | assumption | omega | (simp only [go_sem, *]; done) | (simp only [go_sem, *]; omega)) only [go_sem, isE, isO, stpO, notIn, St.bare, Bool.false_and, Bool.true_and, Bool.and_true, Bool.not_true, Bool.not_false, Int.reduceToNat, Nat.reduceBEq, Nat.reduceEqDiff, Nat.reduceAdd, Nat.reduceMul, Nat.reduceLeDiff, Nat.reduceLT, Nat.reduceSub, ↓reduceIte, reduceCtorEq, ha, hil, hil2]; exact h3); rotate_left 1; (· intro hgt; (try simp only [decide_eq_true_eq, decide_eq_false_iff_not, Bool.not_eq_true', Bool.not_eq_false', Bool.and_eq_true, Bool.or_eq_true, Bool.and_eq_false_iff, Bool.or_eq_false_iff, beq_true, beq_false] at hgt); simp (maxSteps := 4000000) (disch := first | assumption | omega | (simp only [go_sem, *]; done) | (simp only [go_sem, *]; omega)) only [go_sem, isE, isO, stpO, notIn, St.bare, Bool.false_and, Bool.true_and, Bool.and_true, Bool.not_true, Bool.not_false, Int.reduceToNat, Nat.reduceBEq, Nat.reduceEqDiff, Nat.reduceAdd, Nat.reduceMul, Nat.reduceLeDiff, Nat.reduceLT, Nat.reduceSub, ↓reduceIte, reduceCtorEq, ha, hil, hil2]; (repeat (refine And.intro (by first | assumption | omega | decide | (simp; done) | (simp; omega)) ?_)); first | rfl | exact ⟨rfl, rfl⟩); simp only [St.put]; refine hKq _ ?_; clear hKq Kq)
      iterate 1 (refine evR_step fun Kq hKq => ?_; simp (maxSteps := 4000000) (disch := first | assumption | omega | (simp only [go_sem, *]; done) | (simp only [go_sem, *]; omega)) only [go_sem, isE, isO, stpO, notIn, St.bare, Bool.false_and, Bool.true_and, Bool.and_true, Bool.not_true, Bool.not_false, Int.reduceToNat, Nat.reduceBEq, Nat.reduceEqDiff, Nat.reduceAdd, Nat.reduceMul, Nat.reduceLeDiff, Nat.reduceLT, Nat.reduceSub, ↓reduceIte, reduceCtorEq, ha, hil, hil2]; (repeat (refine And.intro (by first | assumption | omega | decide | (simp; done) | (simp; omega)) ?_)); refine hKq _ ?_; clear hKq Kq)
      refine evR_nil (hK _ ?_); clear hK K
      simp only [St.norm, thenE, inBlkE, List.filterMap, List.lookup, Option.map, Nat.reduceBEq]
      refine hK7 _ ?_
      refine tr_cond rfl (fun ht2 => ?_) (fun ht2 => ?_)
      · (try simp only [decide_eq_true_eq, decide_eq_false_iff_not, Bool.not_eq_true', Bool.not_eq_false', Bool.and_eq_true, Bool.or_eq_true, Bool.and_eq_false_iff, Bool.or_eq_false_iff, beq_true, beq_false] at ht2)
        refine tr_seq fun K8 hK8 => ?_
        refine tr_region [2] rfl rfl fun K hK => ?_
        iterate 1 (refine evR_step fun Kq hKq => ?_; simp (maxSteps := 4000000) (disch := first | assumption | omega | (simp only [go_sem, *]; done) | (simp only [go_sem, *]; omega)) only [go_sem, isE, isO, stpO, notIn, St.bare, Bool.false_and, Bool.true_and, Bool.and_true, Bool.not_true, Bool.not_false, Int.reduceToNat, Nat.reduceBEq, Nat.reduceEqDiff, Nat.reduceAdd, Nat.reduceMul, Nat.reduceLeDiff, Nat.reduceLT, Nat.reduceSub, ↓reduceIte, reduceCtorEq, ha, hil, hil2]; (repeat (refine And.intro (by first | assumption | omega | decide | (simp; done) | (simp; omega)) ?_)); refine hKq _ ?_; clear hKq Kq)
        refine evR_nil (hK _ ?_); clear hK K
        simp only [St.norm, thenE, inBlkE, List.filterMap, List.lookup, Option.map, Nat.reduceBEq]
        refine hK8 _ ?_
        refine tr_ret ?_
        (try simp only [thenE, inBlkE])
        simp (maxSteps := 4000000) (disch := first | assumption | omega | (simp only [go_sem, *]; done) | (simp only [go_sem, *]; omega)) only [postA, postO, resV1, fzAll, go_sem, isE, isO, stpO, notIn, St.bare, Bool.false_and, Bool.true_and, Bool.and_true, Bool.not_true, Bool.not_false, Int.reduceToNat, Nat.reduceBEq, Nat.reduceEqDiff, Nat.reduceAdd, Nat.reduceMul, Nat.reduceLeDiff, Nat.reduceLT, Nat.reduceSub, ↓reduceIte, reduceCtorEq, ha, hil, hil2]
        all_goals (first | (rw [valid_bad hil2 (by omega)]; done) | (rw [valid_ok ha hall]; done))
      · (try simp only [decide_eq_true_eq, decide_eq_false_iff_not, Bool.not_eq_true', Bool.not_eq_false', Bool.and_eq_true, Bool.or_eq_true, Bool.and_eq_false_iff, Bool.or_eq_false_iff, beq_true, beq_false] at ht2)
        refine tr_skip ?_
        (try simp only [thenE, inBlkE])
        refine hK6 _ ?_
        refine tr_region [1, 3] rfl rfl fun K hK => ?_
        iterate 3 (refine evR_step fun Kq hKq => ?_; simp (maxSteps := 4000000) (disch := first | assumption | omega | (simp only [go_sem, *]; done) | (simp only [go_sem, *]; omega)) only [go_sem, isE, isO, stpO, notIn, St.bare, Bool.false_and, Bool.true_and, Bool.and_true, Bool.not_true, Bool.not_false, Int.reduceToNat, Nat.reduceBEq, Nat.reduceEqDiff, Nat.reduceAdd, Nat.reduceMul, Nat.reduceLeDiff, Nat.reduceLT, Nat.reduceSub, ↓reduceIte, reduceCtorEq, ha, hil, hil2]; (repeat (refine And.intro (by first | assumption | omega | decide | (simp; done) | (simp; omega)) ?_)); refine hKq _ ?_; clear hKq Kq)
        refine evR_nil (hK _ ?_); clear hK K
        simp only [St.norm, thenE, inBlkE, List.filterMap, List.lookup, Option.map, Nat.reduceBEq]
        refine hKL1 _ ?_
        exact ⟨m - 1, _, by omega, Wk.refl _, i + 1, by omega, (by intro j hj; rcases Nat.lt_or_ge j i with h | h; exact hall j h; obtain rfl : j = i := (by omega); omega), by rw [w64 (x := (i : Int) + 1) (by omega)]; rfl⟩
    · (try simp only [decide_eq_true_eq, decide_eq_false_iff_not, Bool.not_eq_true', Bool.not_eq_false', Bool.and_eq_true, Bool.or_eq_true, Bool.and_eq_false_iff, Bool.or_eq_false_iff, beq_true, beq_false] at ht1)
      have hil : i = 16 := by omega
      subst hil
      refine tr_exit ?_
      simp only [thenE, inBlkE, Nat.reduceEqDiff, ↓reduceIte]
      refine hK2 _ ?_
      refine tr_seq fun K9 hK9 => ?_
      refine tr_region [2] rfl rfl fun K hK => ?_
      iterate 1 (refine evR_step fun Kq hKq => ?_; simp (maxSteps := 4000000) (disch := first | assumption | omega | (simp only [go_sem, *]; done) | (simp only [go_sem, *]; omega)) only [go_sem, isE, isO, stpO, notIn, St.bare, Bool.false_and, Bool.true_and, Bool.and_true, Bool.not_true, Bool.not_false, Int.reduceToNat, Nat.reduceBEq, Nat.reduceEqDiff, Nat.reduceAdd, Nat.reduceMul, Nat.reduceLeDiff, Nat.reduceLT, Nat.reduceSub, ↓reduceIte, reduceCtorEq, ha]; (repeat (refine And.intro (by first | assumption | omega | decide | (simp; done) | (simp; omega)) ?_)); refine hKq _ ?_; clear hKq Kq)
      refine evR_nil (hK _ ?_); clear hK K
      simp only [St.norm, thenE, inBlkE, List.filterMap, List.lookup, Option.map, Nat.reduceBEq]
      refine hK9 _ ?_
      refine tr_ret ?_
      (try simp only [thenE, inBlkE])
      simp (maxSteps := 4000000) (disch := first | assumption | omega | (simp only [go_sem, *]; done) | (simp only [go_sem, *]; omega)) only [postA, postO, resV1, fzAll, go_sem, isE, isO, stpO, notIn, St.bare, Bool.false_and, Bool.true_and, Bool.and_true, Bool.not_true, Bool.not_false, Int.reduceToNat, Nat.reduceBEq, Nat.reduceEqDiff, Nat.reduceAdd, Nat.reduceMul, Nat.reduceLeDiff, Nat.reduceLT, Nat.reduceSub, ↓reduceIte, reduceCtorEq, ha]
      all_goals (first | (rw [valid_bad hil2 (by omega)]; done) | (rw [valid_ok ha hall]; done))

theorem c26 (a : List Int) (ha : a.length = 16) (x y : Int) : CallsA Try.prog 26 [.agg (cellsI a), .int .i64 x, .int .i64 y] (.bool (hasA a x y)) := by
  refine callsA_of_tr Try.func26 rfl (Nat.le_of_ble_eq_true rfl) ?_
  simp only [Try.results26, envOf, Nat.reduceAdd]
  refine tr_seq fun K1 hK1 => ?_
  refine tr_region [1, 2, 3] rfl rfl fun K hK => ?_
  iterate 2 (refine evR_step fun Kq hKq => ?_; simp (maxSteps := 4000000) (disch := first | assumption | omega | (simp only [go_sem, *]; done) | (simp only [go_sem, *]; omega)) only [go_sem, isE, isO, stpO, notIn, St.bare, Bool.false_and, Bool.true_and, Bool.and_true, Bool.not_true, Bool.not_false, Int.reduceToNat, Nat.reduceBEq, Nat.reduceEqDiff, Nat.reduceAdd, Nat.reduceMul, Nat.reduceLeDiff, Nat.reduceLT, Nat.reduceSub, ↓reduceIte, reduceCtorEq, ha]; (repeat (refine And.intro (by first | assumption | omega | decide | (simp; done) | (simp; omega)) ?_)); refine hKq _ ?_; clear hKq Kq)
  refine evR_nil (hK _ ?_); clear hK K
  simp only [St.norm, thenE, inBlkE, List.filterMap, List.lookup, Option.map, Nat.reduceBEq]
  refine hK1 _ ?_
  refine tr_seq fun K2 hK2 => ?_
  refine tr_seq fun K3 hK3 => ?_
  refine tr_region [1, 2, 3, 25] rfl rfl fun K hK => ?_
  iterate 1 (refine evR_step fun Kq hKq => ?_; simp (maxSteps := 4000000) (disch := first | assumption | omega | (simp only [go_sem, *]; done) | (simp only [go_sem, *]; omega)) only [go_sem, isE, isO, stpO, notIn, St.bare, Bool.false_and, Bool.true_and, Bool.and_true, Bool.not_true, Bool.not_false, Int.reduceToNat, Nat.reduceBEq, Nat.reduceEqDiff, Nat.reduceAdd, Nat.reduceMul, Nat.reduceLeDiff, Nat.reduceLT, Nat.reduceSub, ↓reduceIte, reduceCtorEq, ha]; (repeat (refine And.intro (by first | assumption | omega | decide | (simp; done) | (simp; omega)) ?_)); refine hKq _ ?_; clear hKq Kq)
  refine evR_step fun Kq hKq => ?_
  simp (maxSteps := 4000000) (disch := first | assumption | omega | (simp only [go_sem, *]; done) | (simp only [go_sem, *]; omega)) only [go_sem, isE, isO, stpO, notIn, St.bare, Bool.false_and, Bool.true_and, Bool.and_true, Bool.not_true, Bool.not_false, Int.reduceToNat, Nat.reduceBEq, Nat.reduceEqDiff, Nat.reduceAdd, Nat.reduceMul, Nat.reduceLeDiff, Nat.reduceLT, Nat.reduceSub, ↓reduceIte, reduceCtorEq, ha]
  (repeat (refine And.intro (by first | assumption | omega | decide | (simp; done) | (simp; omega)) ?_))
  refine ⟨_, (c14 _ (by assumption)), ?_⟩
  refine hKq _ ?_; clear hKq Kq
  iterate 2 (refine evR_step fun Kq hKq => ?_; simp (maxSteps := 4000000) (disch := first | assumption | omega | (simp only [go_sem, *]; done) | (simp only [go_sem, *]; omega)) only [go_sem, isE, isO, stpO, notIn, St.bare, Bool.false_and, Bool.true_and, Bool.and_true, Bool.not_true, Bool.not_false, Int.reduceToNat, Nat.reduceBEq, Nat.reduceEqDiff, Nat.reduceAdd, Nat.reduceMul, Nat.reduceLeDiff, Nat.reduceLT, Nat.reduceSub, ↓reduceIte, reduceCtorEq, ha]; (repeat (refine And.intro (by first | assumption | omega | decide | (simp; done) | (simp; omega)) ?_)); refine hKq _ ?_; clear hKq Kq)
  iterate 2 (refine evR_step fun Kq hKq => ?_; refine evO_guard (gb := ?_) (v0 := ?_) rfl ?_ ?_ ?_; rotate_left 1; (· intro K3 h3; simp (maxSteps := 4000000) (disch := first | assumption | omega | (simp only [go_sem, *]; done) | (simp only [go_sem, *]; omega)) only [go_sem, isE, isO, stpO, notIn, St.bare, Bool.false_and, Bool.true_and, Bool.and_true, Bool.not_true, Bool.not_false, Int.reduceToNat, Nat.reduceBEq, Nat.reduceEqDiff, Nat.reduceAdd, Nat.reduceMul, Nat.reduceLeDiff, Nat.reduceLT, Nat.reduceSub, ↓reduceIte, reduceCtorEq, ha]; exact h3); rotate_left 1; (· intro hgt; (try simp only [decide_eq_true_eq, decide_eq_false_iff_not, Bool.not_eq_true', Bool.not_eq_false', Bool.and_eq_true, Bool.or_eq_true, Bool.and_eq_false_iff, Bool.or_eq_false_iff, beq_true, beq_false] at hgt); simp (maxSteps := 4000000) (disch := first | assumption | omega | (simp only [go_sem, *]; done) | (simp only [go_sem, *]; omega)) only [go_sem, isE, isO, stpO, notIn, St.bare, Bool.false_and, Bool.true_and, Bool.and_true, Bool.not_true, Bool.not_false, Int.reduceToNat, Nat.reduceBEq, Nat.reduceEqDiff, Nat.reduceAdd, Nat.reduceMul, Nat.reduceLeDiff, Nat.reduceLT, Nat.reduceSub, ↓reduceIte, reduceCtorEq, ha]; (repeat (refine And.intro (by first | assumption | omega | decide | (simp; done) | (simp; omega)) ?_)); first | rfl | exact ⟨rfl, rfl⟩); simp only [St.put]; refine hKq _ ?_; clear hKq Kq)
  iterate 2 (refine evR_step fun Kq hKq => ?_; simp (maxSteps := 4000000) (disch := first | assumption | omega | (simp only [go_sem, *]; done) | (simp only [go_sem, *]; omega)) only [go_sem, isE, isO, stpO, notIn, St.bare, Bool.false_and, Bool.true_and, Bool.and_true, Bool.not_true, Bool.not_false, Int.reduceToNat, Nat.reduceBEq, Nat.reduceEqDiff, Nat.reduceAdd, Nat.reduceMul, Nat.reduceLeDiff, Nat.reduceLT, Nat.reduceSub, ↓reduceIte, reduceCtorEq, ha]; (repeat (refine And.intro (by first | assumption | omega | decide | (simp; done) | (simp; omega)) ?_)); refine hKq _ ?_; clear hKq Kq)
  iterate 2 (refine evR_step fun Kq hKq => ?_; refine evO_guard (gb := ?_) (v0 := ?_) rfl ?_ ?_ ?_; rotate_left 1; (· intro K3 h3; simp (maxSteps := 4000000) (disch := first | assumption | omega | (simp only [go_sem, *]; done) | (simp only [go_sem, *]; omega)) only [go_sem, isE, isO, stpO, notIn, St.bare, Bool.false_and, Bool.true_and, Bool.and_true, Bool.not_true, Bool.not_false, Int.reduceToNat, Nat.reduceBEq, Nat.reduceEqDiff, Nat.reduceAdd, Nat.reduceMul, Nat.reduceLeDiff, Nat.reduceLT, Nat.reduceSub, ↓reduceIte, reduceCtorEq, ha]; exact h3); rotate_left 1; (· intro hgt; (try simp only [decide_eq_true_eq, decide_eq_false_iff_not, Bool.not_eq_true', Bool.not_eq_false', Bool.and_eq_true, Bool.or_eq_true, Bool.and_eq_false_iff, Bool.or_eq_false_iff, beq_true, beq_false] at hgt); simp (maxSteps := 4000000) (disch := first | assumption | omega | (simp only [go_sem, *]; done) | (simp only [go_sem, *]; omega)) only [go_sem, isE, isO, stpO, notIn, St.bare, Bool.false_and, Bool.true_and, Bool.and_true, Bool.not_true, Bool.not_false, Int.reduceToNat, Nat.reduceBEq, Nat.reduceEqDiff, Nat.reduceAdd, Nat.reduceMul, Nat.reduceLeDiff, Nat.reduceLT, Nat.reduceSub, ↓reduceIte, reduceCtorEq, ha]; (repeat (refine And.intro (by first | assumption | omega | decide | (simp; done) | (simp; omega)) ?_)); first | rfl | exact ⟨rfl, rfl⟩); simp only [St.put]; refine hKq _ ?_; clear hKq Kq)
  iterate 2 (refine evR_step fun Kq hKq => ?_; simp (maxSteps := 4000000) (disch := first | assumption | omega | (simp only [go_sem, *]; done) | (simp only [go_sem, *]; omega)) only [go_sem, isE, isO, stpO, notIn, St.bare, Bool.false_and, Bool.true_and, Bool.and_true, Bool.not_true, Bool.not_false, Int.reduceToNat, Nat.reduceBEq, Nat.reduceEqDiff, Nat.reduceAdd, Nat.reduceMul, Nat.reduceLeDiff, Nat.reduceLT, Nat.reduceSub, ↓reduceIte, reduceCtorEq, ha]; (repeat (refine And.intro (by first | assumption | omega | decide | (simp; done) | (simp; omega)) ?_)); refine hKq _ ?_; clear hKq Kq)
  iterate 2 (refine evR_step fun Kq hKq => ?_; refine evO_guard (gb := ?_) (v0 := ?_) rfl ?_ ?_ ?_; rotate_left 1; (· intro K3 h3; simp (maxSteps := 4000000) (disch := first | assumption | omega | (simp only [go_sem, *]; done) | (simp only [go_sem, *]; omega)) only [go_sem, isE, isO, stpO, notIn, St.bare, Bool.false_and, Bool.true_and, Bool.and_true, Bool.not_true, Bool.not_false, Int.reduceToNat, Nat.reduceBEq, Nat.reduceEqDiff, Nat.reduceAdd, Nat.reduceMul, Nat.reduceLeDiff, Nat.reduceLT, Nat.reduceSub, ↓reduceIte, reduceCtorEq, ha]; exact h3); rotate_left 1; (· intro hgt; (try simp only [decide_eq_true_eq, decide_eq_false_iff_not, Bool.not_eq_true', Bool.not_eq_false', Bool.and_eq_true, Bool.or_eq_true, Bool.and_eq_false_iff, Bool.or_eq_false_iff, beq_true, beq_false] at hgt); simp (maxSteps := 4000000) (disch := first | assumption | omega | (simp only [go_sem, *]; done) | (simp only [go_sem, *]; omega)) only [go_sem, isE, isO, stpO, notIn, St.bare, Bool.false_and, Bool.true_and, Bool.and_true, Bool.not_true, Bool.not_false, Int.reduceToNat, Nat.reduceBEq, Nat.reduceEqDiff, Nat.reduceAdd, Nat.reduceMul, Nat.reduceLeDiff, Nat.reduceLT, Nat.reduceSub, ↓reduceIte, reduceCtorEq, ha]; (repeat (refine And.intro (by first | assumption | omega | decide | (simp; done) | (simp; omega)) ?_)); first | rfl | exact ⟨rfl, rfl⟩); simp only [St.put]; refine hKq _ ?_; clear hKq Kq)
  iterate 2 (refine evR_step fun Kq hKq => ?_; simp (maxSteps := 4000000) (disch := first | assumption | omega | (simp only [go_sem, *]; done) | (simp only [go_sem, *]; omega)) only [go_sem, isE, isO, stpO, notIn, St.bare, Bool.false_and, Bool.true_and, Bool.and_true, Bool.not_true, Bool.not_false, Int.reduceToNat, Nat.reduceBEq, Nat.reduceEqDiff, Nat.reduceAdd, Nat.reduceMul, Nat.reduceLeDiff, Nat.reduceLT, Nat.reduceSub, ↓reduceIte, reduceCtorEq, ha]; (repeat (refine And.intro (by first | assumption | omega | decide | (simp; done) | (simp; omega)) ?_)); refine hKq _ ?_; clear hKq Kq)
  iterate 2 (refine evR_step fun Kq hKq => ?_; refine evO_guard (gb := ?_) (v0 := ?_) rfl ?_ ?_ ?_; rotate_left 1; (· intro K3 h3; simp (maxSteps := 4000000) (disch := first | assumption | omega | (simp only [go_sem, *]; done) | (simp only [go_sem, *]; omega)) only [go_sem, isE, isO, stpO, notIn, St.bare, Bool.false_and, Bool.true_and, Bool.and_true, Bool.not_true, Bool.not_false, Int.reduceToNat, Nat.reduceBEq, Nat.reduceEqDiff, Nat.reduceAdd, Nat.reduceMul, Nat.reduceLeDiff, Nat.reduceLT, Nat.reduceSub, ↓reduceIte, reduceCtorEq, ha]; exact h3); rotate_left 1; (· intro hgt; (try simp only [decide_eq_true_eq, decide_eq_false_iff_not, Bool.not_eq_true', Bool.not_eq_false', Bool.and_eq_true, Bool.or_eq_true, Bool.and_eq_false_iff, Bool.or_eq_false_iff, beq_true, beq_false] at hgt); simp (maxSteps := 4000000) (disch := first | assumption | omega | (simp only [go_sem, *]; done) | (simp only [go_sem, *]; omega)) only [go_sem, isE, isO, stpO, notIn, St.bare, Bool.false_and, Bool.true_and, Bool.and_true, Bool.not_true, Bool.not_false, Int.reduceToNat, Nat.reduceBEq, Nat.reduceEqDiff, Nat.reduceAdd, Nat.reduceMul, Nat.reduceLeDiff, Nat.reduceLT, Nat.reduceSub, ↓reduceIte, reduceCtorEq, ha]; (repeat (refine And.intro (by first | assumption | omega | decide | (simp; done) | (simp; omega)) ?_)); first | rfl | exact ⟨rfl, rfl⟩); simp only [St.put]; refine hKq _ ?_; clear hKq Kq)
  iterate 1 (refine evR_step fun Kq hKq => ?_; simp (maxSteps := 4000000) (disch := first | assumption | omega | (simp only [go_sem, *]; done) | (simp only [go_sem, *]; omega)) only [go_sem, isE, isO, stpO, notIn, St.bare, Bool.false_and, Bool.true_and, Bool.and_true, Bool.not_true, Bool.not_false, Int.reduceToNat, Nat.reduceBEq, Nat.reduceEqDiff, Nat.reduceAdd, Nat.reduceMul, Nat.reduceLeDiff, Nat.reduceLT, Nat.reduceSub, ↓reduceIte, reduceCtorEq, ha]; (repeat (refine And.intro (by first | assumption | omega | decide | (simp; done) | (simp; omega)) ?_)); refine hKq _ ?_; clear hKq Kq)
  refine evR_nil (hK _ ?_); clear hK K
  simp only [St.norm, thenE, inBlkE, List.filterMap, List.lookup, Option.map, Nat.reduceBEq]
  refine hK3 _ ?_
  refine tr_cond rfl (fun ht1 => ?_) (fun ht1 => ?_)
  · (try simp only [decide_eq_true_eq, decide_eq_false_iff_not, Bool.not_eq_true', Bool.not_eq_false', Bool.and_eq_true, Bool.or_eq_true, Bool.and_eq_false_iff, Bool.or_eq_false_iff, beq_true, beq_false] at ht1)
    refine tr_seq fun K4 hK4 => ?_
    refine tr_region [6] rfl rfl fun K hK => ?_
    iterate 1 (refine evR_step fun Kq hKq => ?_; simp (maxSteps := 4000000) (disch := first | assumption | omega | (simp only [go_sem, *]; done) | (simp only [go_sem, *]; omega)) only [go_sem, isE, isO, stpO, notIn, St.bare, Bool.false_and, Bool.true_and, Bool.and_true, Bool.not_true, Bool.not_false, Int.reduceToNat, Nat.reduceBEq, Nat.reduceEqDiff, Nat.reduceAdd, Nat.reduceMul, Nat.reduceLeDiff, Nat.reduceLT, Nat.reduceSub, ↓reduceIte, reduceCtorEq, ha]; (repeat (refine And.intro (by first | assumption | omega | decide | (simp; done) | (simp; omega)) ?_)); refine hKq _ ?_; clear hKq Kq)
    refine evR_nil (hK _ ?_); clear hK K
    simp only [St.norm, thenE, inBlkE, List.filterMap, List.lookup, Option.map, Nat.reduceBEq]
    refine hK4 _ ?_
    refine tr_ret ?_
    (try simp only [thenE, inBlkE])
    simp (maxSteps := 4000000) (disch := first | assumption | omega | (simp only [go_sem, *]; done) | (simp only [go_sem, *]; omega)) only [postA, postO, resV1, fzAll, go_sem, isE, isO, stpO, notIn, St.bare, Bool.false_and, Bool.true_and, Bool.and_true, Bool.not_true, Bool.not_false, Int.reduceToNat, Nat.reduceBEq, Nat.reduceEqDiff, Nat.reduceAdd, Nat.reduceMul, Nat.reduceLeDiff, Nat.reduceLT, Nat.reduceSub, ↓reduceIte, reduceCtorEq, ha]
    all_goals (first | (rw [has_out (by simp_all; omega)]; done) | (rw [has_out (by rcases ht1 with (((h | h) | h) | h) | h <;> simp_all)]; done) | (obtain ⟨⟨⟨⟨hv, b1⟩, b2⟩, b3⟩, b4⟩ := ht1; rw [has_in hv (by omega) (by omega), cell_ref ha hv (by omega) (by omega)]; done))
  · (try simp only [decide_eq_true_eq, decide_eq_false_iff_not, Bool.not_eq_true', Bool.not_eq_false', Bool.and_eq_true, Bool.or_eq_true, Bool.and_eq_false_iff, Bool.or_eq_false_iff, beq_true, beq_false] at ht1)
    refine tr_skip ?_
    (try simp only [thenE, inBlkE])
    refine hK2 _ ?_
    refine tr_seq fun K5 hK5 => ?_
    refine tr_region [6] rfl rfl fun K hK => ?_
    iterate 8 (refine evR_step fun Kq hKq => ?_; simp (maxSteps := 4000000) (disch := first | assumption | omega | (simp only [go_sem, *]; done) | (simp only [go_sem, *]; omega)) only [go_sem, isE, isO, stpO, notIn, St.bare, Bool.false_and, Bool.true_and, Bool.and_true, Bool.not_true, Bool.not_false, Int.reduceToNat, Nat.reduceBEq, Nat.reduceEqDiff, Nat.reduceAdd, Nat.reduceMul, Nat.reduceLeDiff, Nat.reduceLT, Nat.reduceSub, ↓reduceIte, reduceCtorEq, ha]; (repeat (refine And.intro (by first | assumption | omega | decide | (simp; done) | (simp; omega)) ?_)); refine hKq _ ?_; clear hKq Kq)
    refine evR_nil (hK _ ?_); clear hK K
    simp only [St.norm, thenE, inBlkE, List.filterMap, List.lookup, Option.map, Nat.reduceBEq]
    refine hK5 _ ?_
    refine tr_ret ?_
    (try simp only [thenE, inBlkE])
    simp (maxSteps := 4000000) (disch := first | assumption | omega | (simp only [go_sem, *]; done) | (simp only [go_sem, *]; omega)) only [postA, postO, resV1, fzAll, go_sem, isE, isO, stpO, notIn, St.bare, Bool.false_and, Bool.true_and, Bool.and_true, Bool.not_true, Bool.not_false, Int.reduceToNat, Nat.reduceBEq, Nat.reduceEqDiff, Nat.reduceAdd, Nat.reduceMul, Nat.reduceLeDiff, Nat.reduceLT, Nat.reduceSub, ↓reduceIte, reduceCtorEq, ha]
    all_goals (first | (rw [has_out (by simp_all; omega)]; done) | (rw [has_out (by rcases ht1 with (((h | h) | h) | h) | h <;> simp_all)]; done) | (obtain ⟨⟨⟨⟨hv, b1⟩, b2⟩, b3⟩, b4⟩ := ht1; rw [has_in hv (by omega) (by omega), cell_ref ha hv (by omega) (by omega)]; done))

theorem c54 (p : Pl) : CallsA Try.prog 54 [.agg [.int .i64 p.x, .int .i64 p.y]] (.bool (onMap p)) := by
  refine callsA_of_tr Try.func54 rfl (Nat.le_of_ble_eq_true rfl) ?_
  simp only [Try.results54, envOf, Nat.reduceAdd]
  refine tr_seq fun K1 hK1 => ?_
  refine tr_region [1] rfl rfl fun K hK => ?_
  iterate 2 (refine evR_step fun Kq hKq => ?_; simp (maxSteps := 4000000) (disch := first | assumption | omega | (simp only [go_sem, *]; done) | (simp only [go_sem, *]; omega)) only [go_sem, isE, isO, stpO, notIn, St.bare, Bool.false_and, Bool.true_and, Bool.and_true, Bool.not_true, Bool.not_false, Int.reduceToNat, Nat.reduceBEq, Nat.reduceEqDiff, Nat.reduceAdd, Nat.reduceMul, Nat.reduceLeDiff, Nat.reduceLT, Nat.reduceSub, ↓reduceIte, reduceCtorEq]; (repeat (refine And.intro (by first | assumption | omega | decide | (simp; done) | (simp; omega)) ?_)); refine hKq _ ?_; clear hKq Kq)
  refine evR_nil (hK _ ?_); clear hK K
  simp only [St.norm, thenE, inBlkE, List.filterMap, List.lookup, Option.map, Nat.reduceBEq]
  refine hK1 _ ?_
  refine tr_seq fun K2 hK2 => ?_
  refine tr_region [2] rfl rfl fun K hK => ?_
  iterate 4 (refine evR_step fun Kq hKq => ?_; simp (maxSteps := 4000000) (disch := first | assumption | omega | (simp only [go_sem, *]; done) | (simp only [go_sem, *]; omega)) only [go_sem, isE, isO, stpO, notIn, St.bare, Bool.false_and, Bool.true_and, Bool.and_true, Bool.not_true, Bool.not_false, Int.reduceToNat, Nat.reduceBEq, Nat.reduceEqDiff, Nat.reduceAdd, Nat.reduceMul, Nat.reduceLeDiff, Nat.reduceLT, Nat.reduceSub, ↓reduceIte, reduceCtorEq]; (repeat (refine And.intro (by first | assumption | omega | decide | (simp; done) | (simp; omega)) ?_)); refine hKq _ ?_; clear hKq Kq)
  iterate 3 (refine evR_step fun Kq hKq => ?_; refine evO_guard (gb := ?_) (v0 := ?_) rfl ?_ ?_ ?_; rotate_left 1; (· intro K3 h3; simp (maxSteps := 4000000) (disch := first | assumption | omega | (simp only [go_sem, *]; done) | (simp only [go_sem, *]; omega)) only [go_sem, isE, isO, stpO, notIn, St.bare, Bool.false_and, Bool.true_and, Bool.and_true, Bool.not_true, Bool.not_false, Int.reduceToNat, Nat.reduceBEq, Nat.reduceEqDiff, Nat.reduceAdd, Nat.reduceMul, Nat.reduceLeDiff, Nat.reduceLT, Nat.reduceSub, ↓reduceIte, reduceCtorEq]; exact h3); rotate_left 1; (· intro hgt; (try simp only [decide_eq_true_eq, decide_eq_false_iff_not, Bool.not_eq_true', Bool.not_eq_false', Bool.and_eq_true, Bool.or_eq_true, Bool.and_eq_false_iff, Bool.or_eq_false_iff, beq_true, beq_false] at hgt); simp (maxSteps := 4000000) (disch := first | assumption | omega | (simp only [go_sem, *]; done) | (simp only [go_sem, *]; omega)) only [go_sem, isE, isO, stpO, notIn, St.bare, Bool.false_and, Bool.true_and, Bool.and_true, Bool.not_true, Bool.not_false, Int.reduceToNat, Nat.reduceBEq, Nat.reduceEqDiff, Nat.reduceAdd, Nat.reduceMul, Nat.reduceLeDiff, Nat.reduceLT, Nat.reduceSub, ↓reduceIte, reduceCtorEq]; (repeat (refine And.intro (by first | assumption | omega | decide | (simp; done) | (simp; omega)) ?_)); first | rfl | exact ⟨rfl, rfl⟩); simp only [St.put]; refine hKq _ ?_; clear hKq Kq)
  iterate 2 (refine evR_step fun Kq hKq => ?_; simp (maxSteps := 4000000) (disch := first | assumption | omega | (simp only [go_sem, *]; done) | (simp only [go_sem, *]; omega)) only [go_sem, isE, isO, stpO, notIn, St.bare, Bool.false_and, Bool.true_and, Bool.and_true, Bool.not_true, Bool.not_false, Int.reduceToNat, Nat.reduceBEq, Nat.reduceEqDiff, Nat.reduceAdd, Nat.reduceMul, Nat.reduceLeDiff, Nat.reduceLT, Nat.reduceSub, ↓reduceIte, reduceCtorEq]; (repeat (refine And.intro (by first | assumption | omega | decide | (simp; done) | (simp; omega)) ?_)); refine hKq _ ?_; clear hKq Kq)
  iterate 3 (refine evR_step fun Kq hKq => ?_; refine evO_guard (gb := ?_) (v0 := ?_) rfl ?_ ?_ ?_; rotate_left 1; (· intro K3 h3; simp (maxSteps := 4000000) (disch := first | assumption | omega | (simp only [go_sem, *]; done) | (simp only [go_sem, *]; omega)) only [go_sem, isE, isO, stpO, notIn, St.bare, Bool.false_and, Bool.true_and, Bool.and_true, Bool.not_true, Bool.not_false, Int.reduceToNat, Nat.reduceBEq, Nat.reduceEqDiff, Nat.reduceAdd, Nat.reduceMul, Nat.reduceLeDiff, Nat.reduceLT, Nat.reduceSub, ↓reduceIte, reduceCtorEq]; exact h3); rotate_left 1; (· intro hgt; (try simp only [decide_eq_true_eq, decide_eq_false_iff_not, Bool.not_eq_true', Bool.not_eq_false', Bool.and_eq_true, Bool.or_eq_true, Bool.and_eq_false_iff, Bool.or_eq_false_iff, beq_true, beq_false] at hgt); simp (maxSteps := 4000000) (disch := first | assumption | omega | (simp only [go_sem, *]; done) | (simp only [go_sem, *]; omega)) only [go_sem, isE, isO, stpO, notIn, St.bare, Bool.false_and, Bool.true_and, Bool.and_true, Bool.not_true, Bool.not_false, Int.reduceToNat, Nat.reduceBEq, Nat.reduceEqDiff, Nat.reduceAdd, Nat.reduceMul, Nat.reduceLeDiff, Nat.reduceLT, Nat.reduceSub, ↓reduceIte, reduceCtorEq]; (repeat (refine And.intro (by first | assumption | omega | decide | (simp; done) | (simp; omega)) ?_)); first | rfl | exact ⟨rfl, rfl⟩); simp only [St.put]; refine hKq _ ?_; clear hKq Kq)
  iterate 2 (refine evR_step fun Kq hKq => ?_; simp (maxSteps := 4000000) (disch := first | assumption | omega | (simp only [go_sem, *]; done) | (simp only [go_sem, *]; omega)) only [go_sem, isE, isO, stpO, notIn, St.bare, Bool.false_and, Bool.true_and, Bool.and_true, Bool.not_true, Bool.not_false, Int.reduceToNat, Nat.reduceBEq, Nat.reduceEqDiff, Nat.reduceAdd, Nat.reduceMul, Nat.reduceLeDiff, Nat.reduceLT, Nat.reduceSub, ↓reduceIte, reduceCtorEq]; (repeat (refine And.intro (by first | assumption | omega | decide | (simp; done) | (simp; omega)) ?_)); refine hKq _ ?_; clear hKq Kq)
  iterate 3 (refine evR_step fun Kq hKq => ?_; refine evO_guard (gb := ?_) (v0 := ?_) rfl ?_ ?_ ?_; rotate_left 1; (· intro K3 h3; simp (maxSteps := 4000000) (disch := first | assumption | omega | (simp only [go_sem, *]; done) | (simp only [go_sem, *]; omega)) only [go_sem, isE, isO, stpO, notIn, St.bare, Bool.false_and, Bool.true_and, Bool.and_true, Bool.not_true, Bool.not_false, Int.reduceToNat, Nat.reduceBEq, Nat.reduceEqDiff, Nat.reduceAdd, Nat.reduceMul, Nat.reduceLeDiff, Nat.reduceLT, Nat.reduceSub, ↓reduceIte, reduceCtorEq]; exact h3); rotate_left 1; (· intro hgt; (try simp only [decide_eq_true_eq, decide_eq_false_iff_not, Bool.not_eq_true', Bool.not_eq_false', Bool.and_eq_true, Bool.or_eq_true, Bool.and_eq_false_iff, Bool.or_eq_false_iff, beq_true, beq_false] at hgt); simp (maxSteps := 4000000) (disch := first | assumption | omega | (simp only [go_sem, *]; done) | (simp only [go_sem, *]; omega)) only [go_sem, isE, isO, stpO, notIn, St.bare, Bool.false_and, Bool.true_and, Bool.and_true, Bool.not_true, Bool.not_false, Int.reduceToNat, Nat.reduceBEq, Nat.reduceEqDiff, Nat.reduceAdd, Nat.reduceMul, Nat.reduceLeDiff, Nat.reduceLT, Nat.reduceSub, ↓reduceIte, reduceCtorEq]; (repeat (refine And.intro (by first | assumption | omega | decide | (simp; done) | (simp; omega)) ?_)); first | rfl | exact ⟨rfl, rfl⟩); simp only [St.put]; refine hKq _ ?_; clear hKq Kq)
  iterate 2 (refine evR_step fun Kq hKq => ?_; simp (maxSteps := 4000000) (disch := first | assumption | omega | (simp only [go_sem, *]; done) | (simp only [go_sem, *]; omega)) only [go_sem, isE, isO, stpO, notIn, St.bare, Bool.false_and, Bool.true_and, Bool.and_true, Bool.not_true, Bool.not_false, Int.reduceToNat, Nat.reduceBEq, Nat.reduceEqDiff, Nat.reduceAdd, Nat.reduceMul, Nat.reduceLeDiff, Nat.reduceLT, Nat.reduceSub, ↓reduceIte, reduceCtorEq]; (repeat (refine And.intro (by first | assumption | omega | decide | (simp; done) | (simp; omega)) ?_)); refine hKq _ ?_; clear hKq Kq)
  refine evR_nil (hK _ ?_); clear hK K
  simp only [St.norm, thenE, inBlkE, List.filterMap, List.lookup, Option.map, Nat.reduceBEq]
  refine hK2 _ ?_
  refine tr_ret ?_
  (try simp only [thenE, inBlkE])
  simp (maxSteps := 4000000) (disch := first | assumption | omega | (simp only [go_sem, *]; done) | (simp only [go_sem, *]; omega)) only [postA, postO, resV1, fzAll, go_sem, isE, isO, stpO, notIn, St.bare, Bool.false_and, Bool.true_and, Bool.and_true, Bool.not_true, Bool.not_false, Int.reduceToNat, Nat.reduceBEq, Nat.reduceEqDiff, Nat.reduceAdd, Nat.reduceMul, Nat.reduceLeDiff, Nat.reduceLT, Nat.reduceSub, ↓reduceIte, reduceCtorEq]
  all_goals ((simp [onMap_iff]))

theorem c18 (a b : List Int) (ha : a.length = 16) (hb : b.length = 16) : CallsA Try.prog 18 [.agg (cellsI a), .agg (cellsI b)] (.agg (cellsI (unionA a b))) := by
  refine callsA_of_tr Try.func18 rfl (Nat.le_of_ble_eq_true rfl) ?_
  simp only [Try.results18, envOf, Nat.reduceAdd]
  refine tr_seq fun K1 hK1 => ?_
  refine tr_region [2, 3, 4] rfl rfl fun K hK => ?_
  iterate 3 (refine evR_step fun Kq hKq => ?_; simp (maxSteps := 4000000) (disch := first | assumption | omega | (simp only [go_sem, *]; done) | (simp only [go_sem, *]; omega)) only [go_sem, isE, isO, stpO, notIn, St.bare, Bool.false_and, Bool.true_and, Bool.and_true, Bool.not_true, Bool.not_false, Int.reduceToNat, Nat.reduceBEq, Nat.reduceEqDiff, Nat.reduceAdd, Nat.reduceMul, Nat.reduceLeDiff, Nat.reduceLT, Nat.reduceSub, ↓reduceIte, reduceCtorEq, ha, hb]; (repeat (refine And.intro (by first | assumption | omega | decide | (simp; done) | (simp; omega)) ?_)); refine hKq _ ?_; clear hKq Kq)
  refine evR_nil (hK _ ?_); clear hK K
  simp only [St.norm, thenE, inBlkE, List.filterMap, List.lookup, Option.map, Nat.reduceBEq]
  refine hK1 _ ?_
  refine tr_seq fun K2 hK2 => ?_
  refine tr_region [2, 3, 4, 5] rfl rfl fun K hK => ?_
  iterate 1 (refine evR_step fun Kq hKq => ?_; simp (maxSteps := 4000000) (disch := first | assumption | omega | (simp only [go_sem, *]; done) | (simp only [go_sem, *]; omega)) only [go_sem, isE, isO, stpO, notIn, St.bare, Bool.false_and, Bool.true_and, Bool.and_true, Bool.not_true, Bool.not_false, Int.reduceToNat, Nat.reduceBEq, Nat.reduceEqDiff, Nat.reduceAdd, Nat.reduceMul, Nat.reduceLeDiff, Nat.reduceLT, Nat.reduceSub, ↓reduceIte, reduceCtorEq, ha, hb]; (repeat (refine And.intro (by first | assumption | omega | decide | (simp; done) | (simp; omega)) ?_)); refine hKq _ ?_; clear hKq Kq)
  refine evR_nil (hK _ ?_); clear hK K
  simp only [St.norm, thenE, inBlkE, List.filterMap, List.lookup, Option.map, Nat.reduceBEq]
  refine hK2 _ ?_
  refine tr_seq fun K3 hK3 => ?_
  refine tr_seq fun K4 hK4 => ?_
  refine tr_region [2, 3, 4, 5, 6] rfl rfl fun K hK => ?_
  iterate 1 (refine evR_step fun Kq hKq => ?_; simp (maxSteps := 4000000) (disch := first | assumption | omega | (simp only [go_sem, *]; done) | (simp only [go_sem, *]; omega)) only [go_sem, isE, isO, stpO, notIn, St.bare, Bool.false_and, Bool.true_and, Bool.and_true, Bool.not_true, Bool.not_false, Int.reduceToNat, Nat.reduceBEq, Nat.reduceEqDiff, Nat.reduceAdd, Nat.reduceMul, Nat.reduceLeDiff, Nat.reduceLT, Nat.reduceSub, ↓reduceIte, reduceCtorEq, ha, hb]; (repeat (refine And.intro (by first | assumption | omega | decide | (simp; done) | (simp; omega)) ?_)); refine hKq _ ?_; clear hKq Kq)
  refine evR_nil (hK _ ?_); clear hK K
  simp only [St.norm, thenE, inBlkE, List.filterMap, List.lookup, Option.map, Nat.reduceBEq]
  refine hK4 _ ?_
  refine tr_block ?_
  -- loop 1: live [2, 3, 4, 5, 6]
  refine tr_loopW (fun m σ => ∃ y : Nat, y + m = 16 ∧ (y = 0 ∨ (validA a = true ∧ validA b = true)) ∧ σ = ⟨[(2, .ptr 0 0), (3, .ptr 1 0), (4, .ptr 2 0), (5, .ptr 3 0), (6, .int .i64 y)], [(3, .cells (cellsI (outA (fun j => rowG (fun x y => gA a x y || gA b x y) j 16) y))), (2, .cells (cellsI (List.replicate 16 0))), (1, .cells (cellsI b)), (0, .cells (cellsI a))], 4⟩) (16) ?_ ?_
  · exact ⟨_, Wk.refl _, 0, by omega, .inl rfl, by rw [outA_zero]; rfl⟩
  · rintro m σ ⟨y, hi, hmid, rfl⟩ KL1 hKL1
    refine tr_seq fun K5 hK5 => ?_
    refine tr_seq fun K6 hK6 => ?_
    refine tr_region [2, 3, 4, 5, 6, 17] rfl rfl fun K hK => ?_
    iterate 3 (refine evR_step fun Kq hKq => ?_; simp (maxSteps := 4000000) (disch := first | assumption | omega | (simp only [go_sem, *]; done) | (simp only [go_sem, *]; omega)) only [go_sem, isE, isO, stpO, notIn, St.bare, Bool.false_and, Bool.true_and, Bool.and_true, Bool.not_true, Bool.not_false, Int.reduceToNat, Nat.reduceBEq, Nat.reduceEqDiff, Nat.reduceAdd, Nat.reduceMul, Nat.reduceLeDiff, Nat.reduceLT, Nat.reduceSub, ↓reduceIte, reduceCtorEq, ha, hb]; (repeat (refine And.intro (by first | assumption | omega | decide | (simp; done) | (simp; omega)) ?_)); refine hKq _ ?_; clear hKq Kq)
    iterate 1 (refine evR_step fun Kq hKq => ?_; refine evO_guard (gb := ?_) (v0 := ?_) rfl ?_ ?_ ?_; rotate_left 1; (· intro K3 h3; simp (maxSteps := 4000000) (disch := first | assumption | omega | (simp only [go_sem, *]; done) | (simp only [go_sem, *]; omega)) only [go_sem, isE, isO, stpO, notIn, St.bare, Bool.false_and, Bool.true_and, Bool.and_true, Bool.not_true, Bool.not_false, Int.reduceToNat, Nat.reduceBEq, Nat.reduceEqDiff, Nat.reduceAdd, Nat.reduceMul, Nat.reduceLeDiff, Nat.reduceLT, Nat.reduceSub, ↓reduceIte, reduceCtorEq, ha, hb]; exact h3); rotate_left 1; (· intro hgt; (try simp only [decide_eq_true_eq, decide_eq_false_iff_not, Bool.not_eq_true', Bool.not_eq_false', Bool.and_eq_true, Bool.or_eq_true, Bool.and_eq_false_iff, Bool.or_eq_false_iff, beq_true, beq_false] at hgt); simp (maxSteps := 4000000) (disch := first | assumption | omega | (simp only [go_sem, *]; done) | (simp only [go_sem, *]; omega)) only [go_sem, isE, isO, stpO, notIn, St.bare, Bool.false_and, Bool.true_and, Bool.and_true, Bool.not_true, Bool.not_false, Int.reduceToNat, Nat.reduceBEq, Nat.reduceEqDiff, Nat.reduceAdd, Nat.reduceMul, Nat.reduceLeDiff, Nat.reduceLT, Nat.reduceSub, ↓reduceIte, reduceCtorEq, ha, hb]; (repeat (refine And.intro (by first | assumption | omega | decide | (simp; done) | (simp; omega)) ?_)); first | rfl | exact ⟨rfl, rfl⟩); simp only [St.put]; refine hKq _ ?_; clear hKq Kq)
    refine evR_step fun Kq hKq => ?_; refine evO_guard (gb := ?_) (v0 := ?_) rfl ?_ ?_ ?_; rotate_left 1; (· intro K3 h3; simp (maxSteps := 4000000) (disch := first | assumption | omega | (simp only [go_sem, *]; done) | (simp only [go_sem, *]; omega)) only [go_sem, isE, isO, stpO, notIn, St.bare, Bool.false_and, Bool.true_and, Bool.and_true, Bool.not_true, Bool.not_false, Int.reduceToNat, Nat.reduceBEq, Nat.reduceEqDiff, Nat.reduceAdd, Nat.reduceMul, Nat.reduceLeDiff, Nat.reduceLT, Nat.reduceSub, ↓reduceIte, reduceCtorEq, ha, hb]; exact h3); rotate_left 1
    · intro hgt; (try simp only [decide_eq_true_eq, decide_eq_false_iff_not, Bool.not_eq_true', Bool.not_eq_false', Bool.and_eq_true, Bool.or_eq_true, Bool.and_eq_false_iff, Bool.or_eq_false_iff, beq_true, beq_false] at hgt); simp (maxSteps := 4000000) (disch := first | assumption | omega | (simp only [go_sem, *]; done) | (simp only [go_sem, *]; omega)) only [go_sem, isE, isO, stpO, notIn, St.bare, Bool.false_and, Bool.true_and, Bool.and_true, Bool.not_true, Bool.not_false, Int.reduceToNat, Nat.reduceBEq, Nat.reduceEqDiff, Nat.reduceAdd, Nat.reduceMul, Nat.reduceLeDiff, Nat.reduceLT, Nat.reduceSub, ↓reduceIte, reduceCtorEq, ha, hb]; (repeat (refine And.intro (by first | assumption | omega | decide | (simp; done) | (simp; omega)) ?_))
      refine ⟨_, (c14 _ (by assumption)), ?_⟩
      first | rfl | exact ⟨rfl, rfl⟩
    simp only [St.put]; refine hKq _ ?_; clear hKq Kq
    iterate 2 (refine evR_step fun Kq hKq => ?_; simp (maxSteps := 4000000) (disch := first | assumption | omega | (simp only [go_sem, *]; done) | (simp only [go_sem, *]; omega)) only [go_sem, isE, isO, stpO, notIn, St.bare, Bool.false_and, Bool.true_and, Bool.and_true, Bool.not_true, Bool.not_false, Int.reduceToNat, Nat.reduceBEq, Nat.reduceEqDiff, Nat.reduceAdd, Nat.reduceMul, Nat.reduceLeDiff, Nat.reduceLT, Nat.reduceSub, ↓reduceIte, reduceCtorEq, ha, hb]; (repeat (refine And.intro (by first | assumption | omega | decide | (simp; done) | (simp; omega)) ?_)); refine hKq _ ?_; clear hKq Kq)
    iterate 1 (refine evR_step fun Kq hKq => ?_; refine evO_guard (gb := ?_) (v0 := ?_) rfl ?_ ?_ ?_; rotate_left 1; (· intro K3 h3; simp (maxSteps := 4000000) (disch := first | assumption | omega | (simp only [go_sem, *]; done) | (simp only [go_sem, *]; omega)) only [go_sem, isE, isO, stpO, notIn, St.bare, Bool.false_and, Bool.true_and, Bool.and_true, Bool.not_true, Bool.not_false, Int.reduceToNat, Nat.reduceBEq, Nat.reduceEqDiff, Nat.reduceAdd, Nat.reduceMul, Nat.reduceLeDiff, Nat.reduceLT, Nat.reduceSub, ↓reduceIte, reduceCtorEq, ha, hb]; exact h3); rotate_left 1; (· intro hgt; (try simp only [decide_eq_true_eq, decide_eq_false_iff_not, Bool.not_eq_true', Bool.not_eq_false', Bool.and_eq_true, Bool.or_eq_true, Bool.and_eq_false_iff, Bool.or_eq_false_iff, beq_true, beq_false] at hgt); simp (maxSteps := 4000000) (disch := first | assumption | omega | (simp only [go_sem, *]; done) | (simp only [go_sem, *]; omega)) only [go_sem, isE, isO, stpO, notIn, St.bare, Bool.false_and, Bool.true_and, Bool.and_true, Bool.not_true, Bool.not_false, Int.reduceToNat, Nat.reduceBEq, Nat.reduceEqDiff, Nat.reduceAdd, Nat.reduceMul, Nat.reduceLeDiff, Nat.reduceLT, Nat.reduceSub, ↓reduceIte, reduceCtorEq, ha, hb]; (repeat (refine And.intro (by first | assumption | omega | decide | (simp; done) | (simp; omega)) ?_)); first | rfl | exact ⟨rfl, rfl⟩); simp only [St.put]; refine hKq _ ?_; clear hKq Kq)
    refine evR_step fun Kq hKq => ?_; refine evO_guard (gb := ?_) (v0 := ?_) rfl ?_ ?_ ?_; rotate_left 1; (· intro K3 h3; simp (maxSteps := 4000000) (disch := first | assumption | omega | (simp only [go_sem, *]; done) | (simp only [go_sem, *]; omega)) only [go_sem, isE, isO, stpO, notIn, St.bare, Bool.false_and, Bool.true_and, Bool.and_true, Bool.not_true, Bool.not_false, Int.reduceToNat, Nat.reduceBEq, Nat.reduceEqDiff, Nat.reduceAdd, Nat.reduceMul, Nat.reduceLeDiff, Nat.reduceLT, Nat.reduceSub, ↓reduceIte, reduceCtorEq, ha, hb]; exact h3); rotate_left 1
    · intro hgt; (try simp only [decide_eq_true_eq, decide_eq_false_iff_not, Bool.not_eq_true', Bool.not_eq_false', Bool.and_eq_true, Bool.or_eq_true, Bool.and_eq_false_iff, Bool.or_eq_false_iff, beq_true, beq_false] at hgt); simp (maxSteps := 4000000) (disch := first | assumption | omega | (simp only [go_sem, *]; done) | (simp only [go_sem, *]; omega)) only [go_sem, isE, isO, stpO, notIn, St.bare, Bool.false_and, Bool.true_and, Bool.and_true, Bool.not_true, Bool.not_false, Int.reduceToNat, Nat.reduceBEq, Nat.reduceEqDiff, Nat.reduceAdd, Nat.reduceMul, Nat.reduceLeDiff, Nat.reduceLT, Nat.reduceSub, ↓reduceIte, reduceCtorEq, ha, hb]; (repeat (refine And.intro (by first | assumption | omega | decide | (simp; done) | (simp; omega)) ?_))
      refine ⟨_, (c14 _ (by assumption)), ?_⟩
      first | rfl | exact ⟨rfl, rfl⟩
    simp only [St.put]; refine hKq _ ?_; clear hKq Kq
    iterate 1 (refine evR_step fun Kq hKq => ?_; simp (maxSteps := 4000000) (disch := first | assumption | omega | (simp only [go_sem, *]; done) | (simp only [go_sem, *]; omega)) only [go_sem, isE, isO, stpO, notIn, St.bare, Bool.false_and, Bool.true_and, Bool.and_true, Bool.not_true, Bool.not_false, Int.reduceToNat, Nat.reduceBEq, Nat.reduceEqDiff, Nat.reduceAdd, Nat.reduceMul, Nat.reduceLeDiff, Nat.reduceLT, Nat.reduceSub, ↓reduceIte, reduceCtorEq, ha, hb]; (repeat (refine And.intro (by first | assumption | omega | decide | (simp; done) | (simp; omega)) ?_)); refine hKq _ ?_; clear hKq Kq)
    refine evR_nil (hK _ ?_); clear hK K
    simp only [St.norm, thenE, inBlkE, List.filterMap, List.lookup, Option.map, Nat.reduceBEq]
    refine hK6 _ ?_
    refine tr_cond rfl (fun ht1 => ?_) (fun ht1 => ?_)
    · (try simp only [decide_eq_true_eq, decide_eq_false_iff_not, Bool.not_eq_true', Bool.not_eq_false', Bool.and_eq_true, Bool.or_eq_true, Bool.and_eq_false_iff, Bool.or_eq_false_iff, beq_true, beq_false] at ht1)
      have hil : y < 16 := by omega
      refine tr_skip ?_
      (try simp only [thenE, inBlkE])
      refine hK5 _ ?_
      refine tr_seq fun K7 hK7 => ?_
      refine tr_block ?_
      refine tr_seq fun K8 hK8 => ?_
      refine tr_region [2, 3, 4, 5, 6, 7] rfl rfl fun K hK => ?_
      iterate 1 (refine evR_step fun Kq hKq => ?_; simp (maxSteps := 4000000) (disch := first | assumption | omega | (simp only [go_sem, *]; done) | (simp only [go_sem, *]; omega)) only [go_sem, isE, isO, stpO, notIn, St.bare, Bool.false_and, Bool.true_and, Bool.and_true, Bool.not_true, Bool.not_false, Int.reduceToNat, Nat.reduceBEq, Nat.reduceEqDiff, Nat.reduceAdd, Nat.reduceMul, Nat.reduceLeDiff, Nat.reduceLT, Nat.reduceSub, ↓reduceIte, reduceCtorEq, ha, hb]; (repeat (refine And.intro (by first | assumption | omega | decide | (simp; done) | (simp; omega)) ?_)); refine hKq _ ?_; clear hKq Kq)
      refine evR_nil (hK _ ?_); clear hK K
      simp only [St.norm, thenE, inBlkE, List.filterMap, List.lookup, Option.map, Nat.reduceBEq]
      refine hK8 _ ?_
      refine tr_block ?_
      -- loop 2: live [2, 3, 4, 5, 6, 7]
      refine tr_loopW (fun m σ => ∃ x : Nat, x + m = 16 ∧ σ = ⟨[(2, .ptr 0 0), (3, .ptr 1 0), (4, .ptr 2 0), (5, .ptr 3 0), (6, .int .i64 y), (7, .int .i64 x)], [(3, .cells (cellsI ((outA (fun j => rowG (fun x y => gA a x y || gA b x y) j 16) y).set y (rowG (fun x y => gA a x y || gA b x y) y x)))), (2, .cells (cellsI (List.replicate 16 0))), (1, .cells (cellsI b)), (0, .cells (cellsI a))], 4⟩) (16) ?_ ?_
      · exact ⟨_, Wk.refl _, 0, by omega, by rw [outR_zero (fun x y => gA a x y || gA b x y) hil]; rfl⟩
      · rintro m2 σ ⟨x, hx, rfl⟩ KL2 hKL2
        refine tr_seq fun K9 hK9 => ?_
        refine tr_seq fun K10 hK10 => ?_
        refine tr_region [2, 3, 4, 5, 6, 7, 21] rfl rfl fun K hK => ?_
        iterate 2 (refine evR_step fun Kq hKq => ?_; simp (maxSteps := 4000000) (disch := first | assumption | omega | (simp only [go_sem, *]; done) | (simp only [go_sem, *]; omega)) only [go_sem, isE, isO, stpO, notIn, St.bare, Bool.false_and, Bool.true_and, Bool.and_true, Bool.not_true, Bool.not_false, Int.reduceToNat, Nat.reduceBEq, Nat.reduceEqDiff, Nat.reduceAdd, Nat.reduceMul, Nat.reduceLeDiff, Nat.reduceLT, Nat.reduceSub, ↓reduceIte, reduceCtorEq, ha, hb]; (repeat (refine And.intro (by first | assumption | omega | decide | (simp; done) | (simp; omega)) ?_)); refine hKq _ ?_; clear hKq Kq)
        refine evR_nil (hK _ ?_); clear hK K
        simp only [St.norm, thenE, inBlkE, List.filterMap, List.lookup, Option.map, Nat.reduceBEq]
        refine hK10 _ ?_
        refine tr_cond rfl (fun ht2 => ?_) (fun ht2 => ?_)
        · (try simp only [decide_eq_true_eq, decide_eq_false_iff_not, Bool.not_eq_true', Bool.not_eq_false', Bool.and_eq_true, Bool.or_eq_true, Bool.and_eq_false_iff, Bool.or_eq_false_iff, beq_true, beq_false] at ht2)
          have hxl : x < 16 := by omega
          refine tr_skip ?_
          (try simp only [thenE, inBlkE])
          refine hK9 _ ?_
          refine tr_seq fun K11 hK11 => ?_
          refine tr_block ?_
          refine tr_seq fun K12 hK12 => ?_
          refine tr_region [2, 3, 4, 5, 6, 7, 33] rfl rfl fun K hK => ?_
          iterate 3 (refine evR_step fun Kq hKq => ?_; simp (maxSteps := 4000000) (disch := first | assumption | omega | (simp only [go_sem, *]; done) | (simp only [go_sem, *]; omega)) only [go_sem, isE, isO, stpO, notIn, St.bare, Bool.false_and, Bool.true_and, Bool.and_true, Bool.not_true, Bool.not_false, Int.reduceToNat, Nat.reduceBEq, Nat.reduceEqDiff, Nat.reduceAdd, Nat.reduceMul, Nat.reduceLeDiff, Nat.reduceLT, Nat.reduceSub, ↓reduceIte, reduceCtorEq, ha, hb]; (repeat (refine And.intro (by first | assumption | omega | decide | (simp; done) | (simp; omega)) ?_)); refine hKq _ ?_; clear hKq Kq)
          refine evR_step fun Kq hKq => ?_
          simp (maxSteps := 4000000) (disch := first | assumption | omega | (simp only [go_sem, *]; done) | (simp only [go_sem, *]; omega)) only [go_sem, isE, isO, stpO, notIn, St.bare, Bool.false_and, Bool.true_and, Bool.and_true, Bool.not_true, Bool.not_false, Int.reduceToNat, Nat.reduceBEq, Nat.reduceEqDiff, Nat.reduceAdd, Nat.reduceMul, Nat.reduceLeDiff, Nat.reduceLT, Nat.reduceSub, ↓reduceIte, reduceCtorEq, ha, hb]
          (repeat (refine And.intro (by first | assumption | omega | decide | (simp; done) | (simp; omega)) ?_))
          refine ⟨_, (c26 _ (by assumption) _ _), ?_⟩
          refine hKq _ ?_; clear hKq Kq
          iterate 1 (refine evR_step fun Kq hKq => ?_; simp (maxSteps := 4000000) (disch := first | assumption | omega | (simp only [go_sem, *]; done) | (simp only [go_sem, *]; omega)) only [go_sem, isE, isO, stpO, notIn, St.bare, Bool.false_and, Bool.true_and, Bool.and_true, Bool.not_true, Bool.not_false, Int.reduceToNat, Nat.reduceBEq, Nat.reduceEqDiff, Nat.reduceAdd, Nat.reduceMul, Nat.reduceLeDiff, Nat.reduceLT, Nat.reduceSub, ↓reduceIte, reduceCtorEq, ha, hb]; (repeat (refine And.intro (by first | assumption | omega | decide | (simp; done) | (simp; omega)) ?_)); refine hKq _ ?_; clear hKq Kq)
          iterate 3 (refine evR_step fun Kq hKq => ?_; refine evO_guard (gb := ?_) (v0 := ?_) rfl ?_ ?_ ?_; rotate_left 1; (· intro K3 h3; simp (maxSteps := 4000000) (disch := first | assumption | omega | (simp only [go_sem, *]; done) | (simp only [go_sem, *]; omega)) only [go_sem, isE, isO, stpO, notIn, St.bare, Bool.false_and, Bool.true_and, Bool.and_true, Bool.not_true, Bool.not_false, Int.reduceToNat, Nat.reduceBEq, Nat.reduceEqDiff, Nat.reduceAdd, Nat.reduceMul, Nat.reduceLeDiff, Nat.reduceLT, Nat.reduceSub, ↓reduceIte, reduceCtorEq, ha, hb]; exact h3); rotate_left 1; (· intro hgt; (try simp only [decide_eq_true_eq, decide_eq_false_iff_not, Bool.not_eq_true', Bool.not_eq_false', Bool.and_eq_true, Bool.or_eq_true, Bool.and_eq_false_iff, Bool.or_eq_false_iff, beq_true, beq_false] at hgt); simp (maxSteps := 4000000) (disch := first | assumption | omega | (simp only [go_sem, *]; done) | (simp only [go_sem, *]; omega)) only [go_sem, isE, isO, stpO, notIn, St.bare, Bool.false_and, Bool.true_and, Bool.and_true, Bool.not_true, Bool.not_false, Int.reduceToNat, Nat.reduceBEq, Nat.reduceEqDiff, Nat.reduceAdd, Nat.reduceMul, Nat.reduceLeDiff, Nat.reduceLT, Nat.reduceSub, ↓reduceIte, reduceCtorEq, ha, hb]; (repeat (refine And.intro (by first | assumption | omega | decide | (simp; done) | (simp; omega)) ?_)); first | rfl | exact ⟨rfl, rfl⟩); simp only [St.put]; refine hKq _ ?_; clear hKq Kq)
          refine evR_step fun Kq hKq => ?_; refine evO_guard (gb := ?_) (v0 := ?_) rfl ?_ ?_ ?_; rotate_left 1; (· intro K3 h3; simp (maxSteps := 4000000) (disch := first | assumption | omega | (simp only [go_sem, *]; done) | (simp only [go_sem, *]; omega)) only [go_sem, isE, isO, stpO, notIn, St.bare, Bool.false_and, Bool.true_and, Bool.and_true, Bool.not_true, Bool.not_false, Int.reduceToNat, Nat.reduceBEq, Nat.reduceEqDiff, Nat.reduceAdd, Nat.reduceMul, Nat.reduceLeDiff, Nat.reduceLT, Nat.reduceSub, ↓reduceIte, reduceCtorEq, ha, hb]; exact h3); rotate_left 1
          · intro hgt; (try simp only [decide_eq_true_eq, decide_eq_false_iff_not, Bool.not_eq_true', Bool.not_eq_false', Bool.and_eq_true, Bool.or_eq_true, Bool.and_eq_false_iff, Bool.or_eq_false_iff, beq_true, beq_false] at hgt); simp (maxSteps := 4000000) (disch := first | assumption | omega | (simp only [go_sem, *]; done) | (simp only [go_sem, *]; omega)) only [go_sem, isE, isO, stpO, notIn, St.bare, Bool.false_and, Bool.true_and, Bool.and_true, Bool.not_true, Bool.not_false, Int.reduceToNat, Nat.reduceBEq, Nat.reduceEqDiff, Nat.reduceAdd, Nat.reduceMul, Nat.reduceLeDiff, Nat.reduceLT, Nat.reduceSub, ↓reduceIte, reduceCtorEq, ha, hb]; (repeat (refine And.intro (by first | assumption | omega | decide | (simp; done) | (simp; omega)) ?_))
            refine ⟨_, (c26 _ (by assumption) _ _), ?_⟩
            first | rfl | exact ⟨rfl, rfl⟩
          simp only [St.put]; refine hKq _ ?_; clear hKq Kq
          iterate 1 (refine evR_step fun Kq hKq => ?_; simp (maxSteps := 4000000) (disch := first | assumption | omega | (simp only [go_sem, *]; done) | (simp only [go_sem, *]; omega)) only [go_sem, isE, isO, stpO, notIn, St.bare, Bool.false_and, Bool.true_and, Bool.and_true, Bool.not_true, Bool.not_false, Int.reduceToNat, Nat.reduceBEq, Nat.reduceEqDiff, Nat.reduceAdd, Nat.reduceMul, Nat.reduceLeDiff, Nat.reduceLT, Nat.reduceSub, ↓reduceIte, reduceCtorEq, ha, hb]; (repeat (refine And.intro (by first | assumption | omega | decide | (simp; done) | (simp; omega)) ?_)); refine hKq _ ?_; clear hKq Kq)
          refine evR_nil (hK _ ?_); clear hK K
          simp only [St.norm, thenE, inBlkE, List.filterMap, List.lookup, Option.map, Nat.reduceBEq]
          refine hK12 _ ?_
          refine tr_cond rfl (fun ht3 => ?_) (fun ht3 => ?_)
          · (try simp only [decide_eq_true_eq, decide_eq_false_iff_not, Bool.not_eq_true', Bool.not_eq_false', Bool.and_eq_true, Bool.or_eq_true, Bool.and_eq_false_iff, Bool.or_eq_false_iff, beq_true, beq_false] at ht3)
            refine tr_draw [] [2, 3, 4, 5, 6, 7] mixed rfl (by kernel_rfl) rfl fun K hK => ?_
            iterate 9 (refine evD_step fun Kq hKq => ?_; simp (maxSteps := 4000000) (disch := first | assumption | omega | (simp only [go_sem, *]; done) | (simp only [go_sem, *]; omega)) only [go_sem, isE, isO, stpO, notIn, St.bare, Bool.false_and, Bool.true_and, Bool.and_true, Bool.not_true, Bool.not_false, Int.reduceToNat, Nat.reduceBEq, Nat.reduceEqDiff, Nat.reduceAdd, Nat.reduceMul, Nat.reduceLeDiff, Nat.reduceLT, Nat.reduceSub, ↓reduceIte, reduceCtorEq, ha, hb]; (repeat (refine And.intro (by first | assumption | omega | decide | (simp; done) | (simp; omega)) ?_)); refine hKq _ ?_; clear hKq Kq)
            refine evD_nil (hK _ ?_); clear hK K
            simp only [St.norm, thenE, inBlkE, List.filterMap, List.lookup, Option.map, Nat.reduceBEq]
            refine hK11 _ ?_
            refine tr_region [2, 3, 4, 5, 6, 7] rfl rfl fun K hK => ?_
            iterate 3 (refine evR_step fun Kq hKq => ?_; simp (maxSteps := 4000000) (disch := first | assumption | omega | (simp only [go_sem, *]; done) | (simp only [go_sem, *]; omega)) only [go_sem, isE, isO, stpO, notIn, St.bare, Bool.false_and, Bool.true_and, Bool.and_true, Bool.not_true, Bool.not_false, Int.reduceToNat, Nat.reduceBEq, Nat.reduceEqDiff, Nat.reduceAdd, Nat.reduceMul, Nat.reduceLeDiff, Nat.reduceLT, Nat.reduceSub, ↓reduceIte, reduceCtorEq, ha, hb]; (repeat (refine And.intro (by first | assumption | omega | decide | (simp; done) | (simp; omega)) ?_)); refine hKq _ ?_; clear hKq Kq)
            refine evR_nil (hK _ ?_); clear hK K
            simp only [St.norm, thenE, inBlkE, List.filterMap, List.lookup, Option.map, Nat.reduceBEq]
            refine hKL2 _ ?_
            first
              | exact ⟨m2 - 1, _, by omega, Wk.refl _, x + 1, by omega, by rw [w64 (x := (x : Int) + 1) (by omega), rowG_add (fun x y => gA a x y || gA b x y) hxl (by simp only [gA]; rcases Bool.eq_false_or_eq_true (hasA a x y) with h1 | h1 <;> rcases Bool.eq_false_or_eq_true (hasA b x y) with h2 | h2 <;> simp_all)]; rfl⟩
              | exact ⟨m2 - 1, _, by omega, Wk.refl _, x + 1, by omega, by rw [w64 (x := (x : Int) + 1) (by omega), rowG_skip (fun x y => gA a x y || gA b x y) (by simp only [gA]; rcases Bool.eq_false_or_eq_true (hasA a x y) with h1 | h1 <;> rcases Bool.eq_false_or_eq_true (hasA b x y) with h2 | h2 <;> simp_all)]; rfl⟩
          · (try simp only [decide_eq_true_eq, decide_eq_false_iff_not, Bool.not_eq_true', Bool.not_eq_false', Bool.and_eq_true, Bool.or_eq_true, Bool.and_eq_false_iff, Bool.or_eq_false_iff, beq_true, beq_false] at ht3)
            refine tr_skip ?_
            (try simp only [thenE, inBlkE])
            refine hK11 _ ?_
            refine tr_region [2, 3, 4, 5, 6, 7] rfl rfl fun K hK => ?_
            iterate 3 (refine evR_step fun Kq hKq => ?_; simp (maxSteps := 4000000) (disch := first | assumption | omega | (simp only [go_sem, *]; done) | (simp only [go_sem, *]; omega)) only [go_sem, isE, isO, stpO, notIn, St.bare, Bool.false_and, Bool.true_and, Bool.and_true, Bool.not_true, Bool.not_false, Int.reduceToNat, Nat.reduceBEq, Nat.reduceEqDiff, Nat.reduceAdd, Nat.reduceMul, Nat.reduceLeDiff, Nat.reduceLT, Nat.reduceSub, ↓reduceIte, reduceCtorEq, ha, hb]; (repeat (refine And.intro (by first | assumption | omega | decide | (simp; done) | (simp; omega)) ?_)); refine hKq _ ?_; clear hKq Kq)
            refine evR_nil (hK _ ?_); clear hK K
            simp only [St.norm, thenE, inBlkE, List.filterMap, List.lookup, Option.map, Nat.reduceBEq]
            refine hKL2 _ ?_
            first
              | exact ⟨m2 - 1, _, by omega, Wk.refl _, x + 1, by omega, by rw [w64 (x := (x : Int) + 1) (by omega), rowG_add (fun x y => gA a x y || gA b x y) hxl (by simp only [gA]; rcases Bool.eq_false_or_eq_true (hasA a x y) with h1 | h1 <;> rcases Bool.eq_false_or_eq_true (hasA b x y) with h2 | h2 <;> simp_all)]; rfl⟩
              | exact ⟨m2 - 1, _, by omega, Wk.refl _, x + 1, by omega, by rw [w64 (x := (x : Int) + 1) (by omega), rowG_skip (fun x y => gA a x y || gA b x y) (by simp only [gA]; rcases Bool.eq_false_or_eq_true (hasA a x y) with h1 | h1 <;> rcases Bool.eq_false_or_eq_true (hasA b x y) with h2 | h2 <;> simp_all)]; rfl⟩
        · (try simp only [decide_eq_true_eq, decide_eq_false_iff_not, Bool.not_eq_true', Bool.not_eq_false', Bool.and_eq_true, Bool.or_eq_true, Bool.and_eq_false_iff, Bool.or_eq_false_iff, beq_true, beq_false] at ht2)
          have hxl : x = 16 := by omega
          subst hxl
          refine tr_exit ?_
          simp only [thenE, inBlkE, Nat.reduceEqDiff, ↓reduceIte]
          refine hK7 _ ?_
          refine tr_region [2, 3, 4, 5, 6] rfl rfl fun K hK => ?_
          iterate 3 (refine evR_step fun Kq hKq => ?_; simp (maxSteps := 4000000) (disch := first | assumption | omega | (simp only [go_sem, *]; done) | (simp only [go_sem, *]; omega)) only [go_sem, isE, isO, stpO, notIn, St.bare, Bool.false_and, Bool.true_and, Bool.and_true, Bool.not_true, Bool.not_false, Int.reduceToNat, Nat.reduceBEq, Nat.reduceEqDiff, Nat.reduceAdd, Nat.reduceMul, Nat.reduceLeDiff, Nat.reduceLT, Nat.reduceSub, ↓reduceIte, reduceCtorEq, ha, hb]; (repeat (refine And.intro (by first | assumption | omega | decide | (simp; done) | (simp; omega)) ?_)); refine hKq _ ?_; clear hKq Kq)
          refine evR_nil (hK _ ?_); clear hK K
          simp only [St.norm, thenE, inBlkE, List.filterMap, List.lookup, Option.map, Nat.reduceBEq]
          refine hKL1 _ ?_
          exact ⟨m - 1, _, by omega, Wk.refl _, y + 1, by omega, (by simp_all), by rw [w64 (x := (y : Int) + 1) (by omega), outA_set (fun j => rowG (fun x y => gA a x y || gA b x y) j 16) hil]; rfl⟩
    · (try simp only [decide_eq_true_eq, decide_eq_false_iff_not, Bool.not_eq_true', Bool.not_eq_false', Bool.and_eq_true, Bool.or_eq_true, Bool.and_eq_false_iff, Bool.or_eq_false_iff, beq_true, beq_false] at ht1)
      skip
      refine tr_exit ?_
      simp only [thenE, inBlkE, Nat.reduceEqDiff, ↓reduceIte]
      refine hK3 _ ?_
      refine tr_seq fun K13 hK13 => ?_
      refine tr_region [4] rfl rfl fun K hK => ?_
      iterate 2 (refine evR_step fun Kq hKq => ?_; simp (maxSteps := 4000000) (disch := first | assumption | omega | (simp only [go_sem, *]; done) | (simp only [go_sem, *]; omega)) only [go_sem, isE, isO, stpO, notIn, St.bare, Bool.false_and, Bool.true_and, Bool.and_true, Bool.not_true, Bool.not_false, Int.reduceToNat, Nat.reduceBEq, Nat.reduceEqDiff, Nat.reduceAdd, Nat.reduceMul, Nat.reduceLeDiff, Nat.reduceLT, Nat.reduceSub, ↓reduceIte, reduceCtorEq, ha, hb]; (repeat (refine And.intro (by first | assumption | omega | decide | (simp; done) | (simp; omega)) ?_)); refine hKq _ ?_; clear hKq Kq)
      refine evR_nil (hK _ ?_); clear hK K
      simp only [St.norm, thenE, inBlkE, List.filterMap, List.lookup, Option.map, Nat.reduceBEq]
      refine hK13 _ ?_
      refine tr_ret ?_
      (try simp only [thenE, inBlkE])
      simp (maxSteps := 4000000) (disch := first | assumption | omega | (simp only [go_sem, *]; done) | (simp only [go_sem, *]; omega)) only [postA, postO, resV1, fzAll, go_sem, isE, isO, stpO, notIn, St.bare, Bool.false_and, Bool.true_and, Bool.and_true, Bool.not_true, Bool.not_false, Int.reduceToNat, Nat.reduceBEq, Nat.reduceEqDiff, Nat.reduceAdd, Nat.reduceMul, Nat.reduceLeDiff, Nat.reduceLT, Nat.reduceSub, ↓reduceIte, reduceCtorEq, ha, hb]
      all_goals
        rcases hmid with h0 | h0
        · subst h0
          rcases ht1 with (h | h) | h
          · omega
          · rw [outA_zero, unionA, each_bad (.inl h)]; rfl
          · rw [outA_zero, unionA, each_bad (.inr h)]; rfl
        · rcases ht1 with (h | h) | h
          · have e : y = 16 := by omega
            subst e; rw [union_ref ha hb h0.1 h0.2]; rfl
          · simp [h0.1] at h
          · simp [h0.2] at h

theorem c20 (a b : List Int) (ha : a.length = 16) (hb : b.length = 16) : CallsA Try.prog 20 [.agg (cellsI a), .agg (cellsI b)] (.agg (cellsI (meetA a b))) := by
  refine callsA_of_tr Try.func20 rfl (Nat.le_of_ble_eq_true rfl) ?_
  simp only [Try.results20, envOf, Nat.reduceAdd]
  refine tr_seq fun K1 hK1 => ?_
  refine tr_region [2, 3, 4] rfl rfl fun K hK => ?_
  iterate 3 (refine evR_step fun Kq hKq => ?_; simp (maxSteps := 4000000) (disch := first | assumption | omega | (simp only [go_sem, *]; done) | (simp only [go_sem, *]; omega)) only [go_sem, isE, isO, stpO, notIn, St.bare, Bool.false_and, Bool.true_and, Bool.and_true, Bool.not_true, Bool.not_false, Int.reduceToNat, Nat.reduceBEq, Nat.reduceEqDiff, Nat.reduceAdd, Nat.reduceMul, Nat.reduceLeDiff, Nat.reduceLT, Nat.reduceSub, ↓reduceIte, reduceCtorEq, ha, hb]; (repeat (refine And.intro (by first | assumption | omega | decide | (simp; done) | (simp; omega)) ?_)); refine hKq _ ?_; clear hKq Kq)
  refine evR_nil (hK _ ?_); clear hK K
  simp only [St.norm, thenE, inBlkE, List.filterMap, List.lookup, Option.map, Nat.reduceBEq]
  refine hK1 _ ?_
  refine tr_seq fun K2 hK2 => ?_
  refine tr_region [2, 3, 4, 5] rfl rfl fun K hK => ?_
  iterate 1 (refine evR_step fun Kq hKq => ?_; simp (maxSteps := 4000000) (disch := first | assumption | omega | (simp only [go_sem, *]; done) | (simp only [go_sem, *]; omega)) only [go_sem, isE, isO, stpO, notIn, St.bare, Bool.false_and, Bool.true_and, Bool.and_true, Bool.not_true, Bool.not_false, Int.reduceToNat, Nat.reduceBEq, Nat.reduceEqDiff, Nat.reduceAdd, Nat.reduceMul, Nat.reduceLeDiff, Nat.reduceLT, Nat.reduceSub, ↓reduceIte, reduceCtorEq, ha, hb]; (repeat (refine And.intro (by first | assumption | omega | decide | (simp; done) | (simp; omega)) ?_)); refine hKq _ ?_; clear hKq Kq)
  refine evR_nil (hK _ ?_); clear hK K
  simp only [St.norm, thenE, inBlkE, List.filterMap, List.lookup, Option.map, Nat.reduceBEq]
  refine hK2 _ ?_
  refine tr_seq fun K3 hK3 => ?_
  refine tr_seq fun K4 hK4 => ?_
  refine tr_region [2, 3, 4, 5, 6] rfl rfl fun K hK => ?_
  iterate 1 (refine evR_step fun Kq hKq => ?_; simp (maxSteps := 4000000) (disch := first | assumption | omega | (simp only [go_sem, *]; done) | (simp only [go_sem, *]; omega)) only [go_sem, isE, isO, stpO, notIn, St.bare, Bool.false_and, Bool.true_and, Bool.and_true, Bool.not_true, Bool.not_false, Int.reduceToNat, Nat.reduceBEq, Nat.reduceEqDiff, Nat.reduceAdd, Nat.reduceMul, Nat.reduceLeDiff, Nat.reduceLT, Nat.reduceSub, ↓reduceIte, reduceCtorEq, ha, hb]; (repeat (refine And.intro (by first | assumption | omega | decide | (simp; done) | (simp; omega)) ?_)); refine hKq _ ?_; clear hKq Kq)
  refine evR_nil (hK _ ?_); clear hK K
  simp only [St.norm, thenE, inBlkE, List.filterMap, List.lookup, Option.map, Nat.reduceBEq]
  refine hK4 _ ?_
  refine tr_block ?_
  -- loop 1: live [2, 3, 4, 5, 6]
  refine tr_loopW (fun m σ => ∃ y : Nat, y + m = 16 ∧ σ = ⟨[(2, .ptr 0 0), (3, .ptr 1 0), (4, .ptr 2 0), (5, .ptr 3 0), (6, .int .i64 y)], [(3, .cells (cellsI (outA (fun j => rowG (fun x y => gA a x y && gA b x y) j 16) y))), (2, .cells (cellsI (List.replicate 16 0))), (1, .cells (cellsI b)), (0, .cells (cellsI a))], 4⟩) (16) ?_ ?_
  · exact ⟨_, Wk.refl _, 0, by omega, by rw [outA_zero]; rfl⟩
  · rintro m σ ⟨y, hi, rfl⟩ KL1 hKL1
    refine tr_seq fun K5 hK5 => ?_
    refine tr_seq fun K6 hK6 => ?_
    refine tr_region [2, 3, 4, 5, 6, 9] rfl rfl fun K hK => ?_
    iterate 2 (refine evR_step fun Kq hKq => ?_; simp (maxSteps := 4000000) (disch := first | assumption | omega | (simp only [go_sem, *]; done) | (simp only [go_sem, *]; omega)) only [go_sem, isE, isO, stpO, notIn, St.bare, Bool.false_and, Bool.true_and, Bool.and_true, Bool.not_true, Bool.not_false, Int.reduceToNat, Nat.reduceBEq, Nat.reduceEqDiff, Nat.reduceAdd, Nat.reduceMul, Nat.reduceLeDiff, Nat.reduceLT, Nat.reduceSub, ↓reduceIte, reduceCtorEq, ha, hb]; (repeat (refine And.intro (by first | assumption | omega | decide | (simp; done) | (simp; omega)) ?_)); refine hKq _ ?_; clear hKq Kq)
    refine evR_nil (hK _ ?_); clear hK K
    simp only [St.norm, thenE, inBlkE, List.filterMap, List.lookup, Option.map, Nat.reduceBEq]
    refine hK6 _ ?_
    refine tr_cond rfl (fun ht1 => ?_) (fun ht1 => ?_)
    · (try simp only [decide_eq_true_eq, decide_eq_false_iff_not, Bool.not_eq_true', Bool.not_eq_false', Bool.and_eq_true, Bool.or_eq_true, Bool.and_eq_false_iff, Bool.or_eq_false_iff, beq_true, beq_false] at ht1)
      have hil : y < 16 := by omega
      refine tr_skip ?_
      (try simp only [thenE, inBlkE])
      refine hK5 _ ?_
      refine tr_seq fun K7 hK7 => ?_
      refine tr_block ?_
      refine tr_seq fun K8 hK8 => ?_
      refine tr_region [2, 3, 4, 5, 6, 7] rfl rfl fun K hK => ?_
      iterate 1 (refine evR_step fun Kq hKq => ?_; simp (maxSteps := 4000000) (disch := first | assumption | omega | (simp only [go_sem, *]; done) | (simp only [go_sem, *]; omega)) only [go_sem, isE, isO, stpO, notIn, St.bare, Bool.false_and, Bool.true_and, Bool.and_true, Bool.not_true, Bool.not_false, Int.reduceToNat, Nat.reduceBEq, Nat.reduceEqDiff, Nat.reduceAdd, Nat.reduceMul, Nat.reduceLeDiff, Nat.reduceLT, Nat.reduceSub, ↓reduceIte, reduceCtorEq, ha, hb]; (repeat (refine And.intro (by first | assumption | omega | decide | (simp; done) | (simp; omega)) ?_)); refine hKq _ ?_; clear hKq Kq)
      refine evR_nil (hK _ ?_); clear hK K
      simp only [St.norm, thenE, inBlkE, List.filterMap, List.lookup, Option.map, Nat.reduceBEq]
      refine hK8 _ ?_
      refine tr_block ?_
      -- loop 2: live [2, 3, 4, 5, 6, 7]
      refine tr_loopW (fun m σ => ∃ x : Nat, x + m = 16 ∧ σ = ⟨[(2, .ptr 0 0), (3, .ptr 1 0), (4, .ptr 2 0), (5, .ptr 3 0), (6, .int .i64 y), (7, .int .i64 x)], [(3, .cells (cellsI ((outA (fun j => rowG (fun x y => gA a x y && gA b x y) j 16) y).set y (rowG (fun x y => gA a x y && gA b x y) y x)))), (2, .cells (cellsI (List.replicate 16 0))), (1, .cells (cellsI b)), (0, .cells (cellsI a))], 4⟩) (16) ?_ ?_
      · exact ⟨_, Wk.refl _, 0, by omega, by rw [outR_zero (fun x y => gA a x y && gA b x y) hil]; rfl⟩
      · rintro m2 σ ⟨x, hx, rfl⟩ KL2 hKL2
        refine tr_seq fun K9 hK9 => ?_
        refine tr_seq fun K10 hK10 => ?_
        refine tr_region [2, 3, 4, 5, 6, 7, 13] rfl rfl fun K hK => ?_
        iterate 2 (refine evR_step fun Kq hKq => ?_; simp (maxSteps := 4000000) (disch := first | assumption | omega | (simp only [go_sem, *]; done) | (simp only [go_sem, *]; omega)) only [go_sem, isE, isO, stpO, notIn, St.bare, Bool.false_and, Bool.true_and, Bool.and_true, Bool.not_true, Bool.not_false, Int.reduceToNat, Nat.reduceBEq, Nat.reduceEqDiff, Nat.reduceAdd, Nat.reduceMul, Nat.reduceLeDiff, Nat.reduceLT, Nat.reduceSub, ↓reduceIte, reduceCtorEq, ha, hb]; (repeat (refine And.intro (by first | assumption | omega | decide | (simp; done) | (simp; omega)) ?_)); refine hKq _ ?_; clear hKq Kq)
        refine evR_nil (hK _ ?_); clear hK K
        simp only [St.norm, thenE, inBlkE, List.filterMap, List.lookup, Option.map, Nat.reduceBEq]
        refine hK10 _ ?_
        refine tr_cond rfl (fun ht2 => ?_) (fun ht2 => ?_)
        · (try simp only [decide_eq_true_eq, decide_eq_false_iff_not, Bool.not_eq_true', Bool.not_eq_false', Bool.and_eq_true, Bool.or_eq_true, Bool.and_eq_false_iff, Bool.or_eq_false_iff, beq_true, beq_false] at ht2)
          have hxl : x < 16 := by omega
          refine tr_skip ?_
          (try simp only [thenE, inBlkE])
          refine hK9 _ ?_
          refine tr_seq fun K11 hK11 => ?_
          refine tr_block ?_
          refine tr_seq fun K12 hK12 => ?_
          refine tr_region [2, 3, 4, 5, 6, 7, 25] rfl rfl fun K hK => ?_
          iterate 3 (refine evR_step fun Kq hKq => ?_; simp (maxSteps := 4000000) (disch := first | assumption | omega | (simp only [go_sem, *]; done) | (simp only [go_sem, *]; omega)) only [go_sem, isE, isO, stpO, notIn, St.bare, Bool.false_and, Bool.true_and, Bool.and_true, Bool.not_true, Bool.not_false, Int.reduceToNat, Nat.reduceBEq, Nat.reduceEqDiff, Nat.reduceAdd, Nat.reduceMul, Nat.reduceLeDiff, Nat.reduceLT, Nat.reduceSub, ↓reduceIte, reduceCtorEq, ha, hb]; (repeat (refine And.intro (by first | assumption | omega | decide | (simp; done) | (simp; omega)) ?_)); refine hKq _ ?_; clear hKq Kq)
          refine evR_step fun Kq hKq => ?_
          simp (maxSteps := 4000000) (disch := first | assumption | omega | (simp only [go_sem, *]; done) | (simp only [go_sem, *]; omega)) only [go_sem, isE, isO, stpO, notIn, St.bare, Bool.false_and, Bool.true_and, Bool.and_true, Bool.not_true, Bool.not_false, Int.reduceToNat, Nat.reduceBEq, Nat.reduceEqDiff, Nat.reduceAdd, Nat.reduceMul, Nat.reduceLeDiff, Nat.reduceLT, Nat.reduceSub, ↓reduceIte, reduceCtorEq, ha, hb]
          (repeat (refine And.intro (by first | assumption | omega | decide | (simp; done) | (simp; omega)) ?_))
          refine ⟨_, (c26 _ (by assumption) _ _), ?_⟩
          refine hKq _ ?_; clear hKq Kq
          iterate 1 (refine evR_step fun Kq hKq => ?_; simp (maxSteps := 4000000) (disch := first | assumption | omega | (simp only [go_sem, *]; done) | (simp only [go_sem, *]; omega)) only [go_sem, isE, isO, stpO, notIn, St.bare, Bool.false_and, Bool.true_and, Bool.and_true, Bool.not_true, Bool.not_false, Int.reduceToNat, Nat.reduceBEq, Nat.reduceEqDiff, Nat.reduceAdd, Nat.reduceMul, Nat.reduceLeDiff, Nat.reduceLT, Nat.reduceSub, ↓reduceIte, reduceCtorEq, ha, hb]; (repeat (refine And.intro (by first | assumption | omega | decide | (simp; done) | (simp; omega)) ?_)); refine hKq _ ?_; clear hKq Kq)
          iterate 3 (refine evR_step fun Kq hKq => ?_; refine evO_guard (gb := ?_) (v0 := ?_) rfl ?_ ?_ ?_; rotate_left 1; (· intro K3 h3; simp (maxSteps := 4000000) (disch := first | assumption | omega | (simp only [go_sem, *]; done) | (simp only [go_sem, *]; omega)) only [go_sem, isE, isO, stpO, notIn, St.bare, Bool.false_and, Bool.true_and, Bool.and_true, Bool.not_true, Bool.not_false, Int.reduceToNat, Nat.reduceBEq, Nat.reduceEqDiff, Nat.reduceAdd, Nat.reduceMul, Nat.reduceLeDiff, Nat.reduceLT, Nat.reduceSub, ↓reduceIte, reduceCtorEq, ha, hb]; exact h3); rotate_left 1; (· intro hgt; (try simp only [decide_eq_true_eq, decide_eq_false_iff_not, Bool.not_eq_true', Bool.not_eq_false', Bool.and_eq_true, Bool.or_eq_true, Bool.and_eq_false_iff, Bool.or_eq_false_iff, beq_true, beq_false] at hgt); simp (maxSteps := 4000000) (disch := first | assumption | omega | (simp only [go_sem, *]; done) | (simp only [go_sem, *]; omega)) only [go_sem, isE, isO, stpO, notIn, St.bare, Bool.false_and, Bool.true_and, Bool.and_true, Bool.not_true, Bool.not_false, Int.reduceToNat, Nat.reduceBEq, Nat.reduceEqDiff, Nat.reduceAdd, Nat.reduceMul, Nat.reduceLeDiff, Nat.reduceLT, Nat.reduceSub, ↓reduceIte, reduceCtorEq, ha, hb]; (repeat (refine And.intro (by first | assumption | omega | decide | (simp; done) | (simp; omega)) ?_)); first | rfl | exact ⟨rfl, rfl⟩); simp only [St.put]; refine hKq _ ?_; clear hKq Kq)
          refine evR_step fun Kq hKq => ?_; refine evO_guard (gb := ?_) (v0 := ?_) rfl ?_ ?_ ?_; rotate_left 1; (· intro K3 h3; simp (maxSteps := 4000000) (disch := first | assumption | omega | (simp only [go_sem, *]; done) | (simp only [go_sem, *]; omega)) only [go_sem, isE, isO, stpO, notIn, St.bare, Bool.false_and, Bool.true_and, Bool.and_true, Bool.not_true, Bool.not_false, Int.reduceToNat, Nat.reduceBEq, Nat.reduceEqDiff, Nat.reduceAdd, Nat.reduceMul, Nat.reduceLeDiff, Nat.reduceLT, Nat.reduceSub, ↓reduceIte, reduceCtorEq, ha, hb]; exact h3); rotate_left 1
          · intro hgt; (try simp only [decide_eq_true_eq, decide_eq_false_iff_not, Bool.not_eq_true', Bool.not_eq_false', Bool.and_eq_true, Bool.or_eq_true, Bool.and_eq_false_iff, Bool.or_eq_false_iff, beq_true, beq_false] at hgt); simp (maxSteps := 4000000) (disch := first | assumption | omega | (simp only [go_sem, *]; done) | (simp only [go_sem, *]; omega)) only [go_sem, isE, isO, stpO, notIn, St.bare, Bool.false_and, Bool.true_and, Bool.and_true, Bool.not_true, Bool.not_false, Int.reduceToNat, Nat.reduceBEq, Nat.reduceEqDiff, Nat.reduceAdd, Nat.reduceMul, Nat.reduceLeDiff, Nat.reduceLT, Nat.reduceSub, ↓reduceIte, reduceCtorEq, ha, hb]; (repeat (refine And.intro (by first | assumption | omega | decide | (simp; done) | (simp; omega)) ?_))
            refine ⟨_, (c26 _ (by assumption) _ _), ?_⟩
            first | rfl | exact ⟨rfl, rfl⟩
          simp only [St.put]; refine hKq _ ?_; clear hKq Kq
          iterate 1 (refine evR_step fun Kq hKq => ?_; simp (maxSteps := 4000000) (disch := first | assumption | omega | (simp only [go_sem, *]; done) | (simp only [go_sem, *]; omega)) only [go_sem, isE, isO, stpO, notIn, St.bare, Bool.false_and, Bool.true_and, Bool.and_true, Bool.not_true, Bool.not_false, Int.reduceToNat, Nat.reduceBEq, Nat.reduceEqDiff, Nat.reduceAdd, Nat.reduceMul, Nat.reduceLeDiff, Nat.reduceLT, Nat.reduceSub, ↓reduceIte, reduceCtorEq, ha, hb]; (repeat (refine And.intro (by first | assumption | omega | decide | (simp; done) | (simp; omega)) ?_)); refine hKq _ ?_; clear hKq Kq)
          refine evR_nil (hK _ ?_); clear hK K
          simp only [St.norm, thenE, inBlkE, List.filterMap, List.lookup, Option.map, Nat.reduceBEq]
          refine hK12 _ ?_
          refine tr_cond rfl (fun ht3 => ?_) (fun ht3 => ?_)
          · (try simp only [decide_eq_true_eq, decide_eq_false_iff_not, Bool.not_eq_true', Bool.not_eq_false', Bool.and_eq_true, Bool.or_eq_true, Bool.and_eq_false_iff, Bool.or_eq_false_iff, beq_true, beq_false] at ht3)
            refine tr_draw [] [2, 3, 4, 5, 6, 7] mixed rfl (by kernel_rfl) rfl fun K hK => ?_
            iterate 9 (refine evD_step fun Kq hKq => ?_; simp (maxSteps := 4000000) (disch := first | assumption | omega | (simp only [go_sem, *]; done) | (simp only [go_sem, *]; omega)) only [go_sem, isE, isO, stpO, notIn, St.bare, Bool.false_and, Bool.true_and, Bool.and_true, Bool.not_true, Bool.not_false, Int.reduceToNat, Nat.reduceBEq, Nat.reduceEqDiff, Nat.reduceAdd, Nat.reduceMul, Nat.reduceLeDiff, Nat.reduceLT, Nat.reduceSub, ↓reduceIte, reduceCtorEq, ha, hb]; (repeat (refine And.intro (by first | assumption | omega | decide | (simp; done) | (simp; omega)) ?_)); refine hKq _ ?_; clear hKq Kq)
            refine evD_nil (hK _ ?_); clear hK K
            simp only [St.norm, thenE, inBlkE, List.filterMap, List.lookup, Option.map, Nat.reduceBEq]
            refine hK11 _ ?_
            refine tr_region [2, 3, 4, 5, 6, 7] rfl rfl fun K hK => ?_
            iterate 3 (refine evR_step fun Kq hKq => ?_; simp (maxSteps := 4000000) (disch := first | assumption | omega | (simp only [go_sem, *]; done) | (simp only [go_sem, *]; omega)) only [go_sem, isE, isO, stpO, notIn, St.bare, Bool.false_and, Bool.true_and, Bool.and_true, Bool.not_true, Bool.not_false, Int.reduceToNat, Nat.reduceBEq, Nat.reduceEqDiff, Nat.reduceAdd, Nat.reduceMul, Nat.reduceLeDiff, Nat.reduceLT, Nat.reduceSub, ↓reduceIte, reduceCtorEq, ha, hb]; (repeat (refine And.intro (by first | assumption | omega | decide | (simp; done) | (simp; omega)) ?_)); refine hKq _ ?_; clear hKq Kq)
            refine evR_nil (hK _ ?_); clear hK K
            simp only [St.norm, thenE, inBlkE, List.filterMap, List.lookup, Option.map, Nat.reduceBEq]
            refine hKL2 _ ?_
            first
              | exact ⟨m2 - 1, _, by omega, Wk.refl _, x + 1, by omega, by rw [w64 (x := (x : Int) + 1) (by omega), rowG_add (fun x y => gA a x y && gA b x y) hxl (by simp only [gA]; rcases Bool.eq_false_or_eq_true (hasA a x y) with h1 | h1 <;> rcases Bool.eq_false_or_eq_true (hasA b x y) with h2 | h2 <;> simp_all)]; rfl⟩
              | exact ⟨m2 - 1, _, by omega, Wk.refl _, x + 1, by omega, by rw [w64 (x := (x : Int) + 1) (by omega), rowG_skip (fun x y => gA a x y && gA b x y) (by simp only [gA]; rcases Bool.eq_false_or_eq_true (hasA a x y) with h1 | h1 <;> rcases Bool.eq_false_or_eq_true (hasA b x y) with h2 | h2 <;> simp_all)]; rfl⟩
          · (try simp only [decide_eq_true_eq, decide_eq_false_iff_not, Bool.not_eq_true', Bool.not_eq_false', Bool.and_eq_true, Bool.or_eq_true, Bool.and_eq_false_iff, Bool.or_eq_false_iff, beq_true, beq_false] at ht3)
            refine tr_skip ?_
            (try simp only [thenE, inBlkE])
            refine hK11 _ ?_
            refine tr_region [2, 3, 4, 5, 6, 7] rfl rfl fun K hK => ?_
            iterate 3 (refine evR_step fun Kq hKq => ?_; simp (maxSteps := 4000000) (disch := first | assumption | omega | (simp only [go_sem, *]; done) | (simp only [go_sem, *]; omega)) only [go_sem, isE, isO, stpO, notIn, St.bare, Bool.false_and, Bool.true_and, Bool.and_true, Bool.not_true, Bool.not_false, Int.reduceToNat, Nat.reduceBEq, Nat.reduceEqDiff, Nat.reduceAdd, Nat.reduceMul, Nat.reduceLeDiff, Nat.reduceLT, Nat.reduceSub, ↓reduceIte, reduceCtorEq, ha, hb]; (repeat (refine And.intro (by first | assumption | omega | decide | (simp; done) | (simp; omega)) ?_)); refine hKq _ ?_; clear hKq Kq)
            refine evR_nil (hK _ ?_); clear hK K
            simp only [St.norm, thenE, inBlkE, List.filterMap, List.lookup, Option.map, Nat.reduceBEq]
            refine hKL2 _ ?_
            first
              | exact ⟨m2 - 1, _, by omega, Wk.refl _, x + 1, by omega, by rw [w64 (x := (x : Int) + 1) (by omega), rowG_add (fun x y => gA a x y && gA b x y) hxl (by simp only [gA]; rcases Bool.eq_false_or_eq_true (hasA a x y) with h1 | h1 <;> rcases Bool.eq_false_or_eq_true (hasA b x y) with h2 | h2 <;> simp_all)]; rfl⟩
              | exact ⟨m2 - 1, _, by omega, Wk.refl _, x + 1, by omega, by rw [w64 (x := (x : Int) + 1) (by omega), rowG_skip (fun x y => gA a x y && gA b x y) (by simp only [gA]; rcases Bool.eq_false_or_eq_true (hasA a x y) with h1 | h1 <;> rcases Bool.eq_false_or_eq_true (hasA b x y) with h2 | h2 <;> simp_all)]; rfl⟩
        · (try simp only [decide_eq_true_eq, decide_eq_false_iff_not, Bool.not_eq_true', Bool.not_eq_false', Bool.and_eq_true, Bool.or_eq_true, Bool.and_eq_false_iff, Bool.or_eq_false_iff, beq_true, beq_false] at ht2)
          have hxl : x = 16 := by omega
          subst hxl
          refine tr_exit ?_
          simp only [thenE, inBlkE, Nat.reduceEqDiff, ↓reduceIte]
          refine hK7 _ ?_
          refine tr_region [2, 3, 4, 5, 6] rfl rfl fun K hK => ?_
          iterate 3 (refine evR_step fun Kq hKq => ?_; simp (maxSteps := 4000000) (disch := first | assumption | omega | (simp only [go_sem, *]; done) | (simp only [go_sem, *]; omega)) only [go_sem, isE, isO, stpO, notIn, St.bare, Bool.false_and, Bool.true_and, Bool.and_true, Bool.not_true, Bool.not_false, Int.reduceToNat, Nat.reduceBEq, Nat.reduceEqDiff, Nat.reduceAdd, Nat.reduceMul, Nat.reduceLeDiff, Nat.reduceLT, Nat.reduceSub, ↓reduceIte, reduceCtorEq, ha, hb]; (repeat (refine And.intro (by first | assumption | omega | decide | (simp; done) | (simp; omega)) ?_)); refine hKq _ ?_; clear hKq Kq)
          refine evR_nil (hK _ ?_); clear hK K
          simp only [St.norm, thenE, inBlkE, List.filterMap, List.lookup, Option.map, Nat.reduceBEq]
          refine hKL1 _ ?_
          exact ⟨m - 1, _, by omega, Wk.refl _, y + 1, by omega, by rw [w64 (x := (y : Int) + 1) (by omega), outA_set (fun j => rowG (fun x y => gA a x y && gA b x y) j 16) hil]; rfl⟩
    · (try simp only [decide_eq_true_eq, decide_eq_false_iff_not, Bool.not_eq_true', Bool.not_eq_false', Bool.and_eq_true, Bool.or_eq_true, Bool.and_eq_false_iff, Bool.or_eq_false_iff, beq_true, beq_false] at ht1)
      have hil : y = 16 := by omega
      subst hil
      refine tr_exit ?_
      simp only [thenE, inBlkE, Nat.reduceEqDiff, ↓reduceIte]
      refine hK3 _ ?_
      refine tr_seq fun K13 hK13 => ?_
      refine tr_region [4] rfl rfl fun K hK => ?_
      iterate 2 (refine evR_step fun Kq hKq => ?_; simp (maxSteps := 4000000) (disch := first | assumption | omega | (simp only [go_sem, *]; done) | (simp only [go_sem, *]; omega)) only [go_sem, isE, isO, stpO, notIn, St.bare, Bool.false_and, Bool.true_and, Bool.and_true, Bool.not_true, Bool.not_false, Int.reduceToNat, Nat.reduceBEq, Nat.reduceEqDiff, Nat.reduceAdd, Nat.reduceMul, Nat.reduceLeDiff, Nat.reduceLT, Nat.reduceSub, ↓reduceIte, reduceCtorEq, ha, hb]; (repeat (refine And.intro (by first | assumption | omega | decide | (simp; done) | (simp; omega)) ?_)); refine hKq _ ?_; clear hKq Kq)
      refine evR_nil (hK _ ?_); clear hK K
      simp only [St.norm, thenE, inBlkE, List.filterMap, List.lookup, Option.map, Nat.reduceBEq]
      refine hK13 _ ?_
      refine tr_ret ?_
      (try simp only [thenE, inBlkE])
      simp (maxSteps := 4000000) (disch := first | assumption | omega | (simp only [go_sem, *]; done) | (simp only [go_sem, *]; omega)) only [postA, postO, resV1, fzAll, go_sem, isE, isO, stpO, notIn, St.bare, Bool.false_and, Bool.true_and, Bool.and_true, Bool.not_true, Bool.not_false, Int.reduceToNat, Nat.reduceBEq, Nat.reduceEqDiff, Nat.reduceAdd, Nat.reduceMul, Nat.reduceLeDiff, Nat.reduceLT, Nat.reduceSub, ↓reduceIte, reduceCtorEq, ha, hb]
      all_goals ((rw [meet_ref ha hb]; rfl))

theorem c22 (a b : List Int) (ha : a.length = 16) (hb : b.length = 16) : CallsA Try.prog 22 [.agg (cellsI a), .agg (cellsI b)] (.agg (cellsI (minusA a b))) := by
  refine callsA_of_tr Try.func22 rfl (Nat.le_of_ble_eq_true rfl) ?_
  simp only [Try.results22, envOf, Nat.reduceAdd]
  refine tr_seq fun K1 hK1 => ?_
  refine tr_region [2, 3, 4] rfl rfl fun K hK => ?_
  iterate 3 (refine evR_step fun Kq hKq => ?_; simp (maxSteps := 4000000) (disch := first | assumption | omega | (simp only [go_sem, *]; done) | (simp only [go_sem, *]; omega)) only [go_sem, isE, isO, stpO, notIn, St.bare, Bool.false_and, Bool.true_and, Bool.and_true, Bool.not_true, Bool.not_false, Int.reduceToNat, Nat.reduceBEq, Nat.reduceEqDiff, Nat.reduceAdd, Nat.reduceMul, Nat.reduceLeDiff, Nat.reduceLT, Nat.reduceSub, ↓reduceIte, reduceCtorEq, ha, hb]; (repeat (refine And.intro (by first | assumption | omega | decide | (simp; done) | (simp; omega)) ?_)); refine hKq _ ?_; clear hKq Kq)
  refine evR_nil (hK _ ?_); clear hK K
  simp only [St.norm, thenE, inBlkE, List.filterMap, List.lookup, Option.map, Nat.reduceBEq]
  refine hK1 _ ?_
  refine tr_seq fun K2 hK2 => ?_
  refine tr_region [2, 3, 4, 5] rfl rfl fun K hK => ?_
  iterate 1 (refine evR_step fun Kq hKq => ?_; simp (maxSteps := 4000000) (disch := first | assumption | omega | (simp only [go_sem, *]; done) | (simp only [go_sem, *]; omega)) only [go_sem, isE, isO, stpO, notIn, St.bare, Bool.false_and, Bool.true_and, Bool.and_true, Bool.not_true, Bool.not_false, Int.reduceToNat, Nat.reduceBEq, Nat.reduceEqDiff, Nat.reduceAdd, Nat.reduceMul, Nat.reduceLeDiff, Nat.reduceLT, Nat.reduceSub, ↓reduceIte, reduceCtorEq, ha, hb]; (repeat (refine And.intro (by first | assumption | omega | decide | (simp; done) | (simp; omega)) ?_)); refine hKq _ ?_; clear hKq Kq)
  refine evR_nil (hK _ ?_); clear hK K
  simp only [St.norm, thenE, inBlkE, List.filterMap, List.lookup, Option.map, Nat.reduceBEq]
  refine hK2 _ ?_
  refine tr_seq fun K3 hK3 => ?_
  refine tr_seq fun K4 hK4 => ?_
  refine tr_region [2, 3, 4, 5, 6] rfl rfl fun K hK => ?_
  iterate 1 (refine evR_step fun Kq hKq => ?_; simp (maxSteps := 4000000) (disch := first | assumption | omega | (simp only [go_sem, *]; done) | (simp only [go_sem, *]; omega)) only [go_sem, isE, isO, stpO, notIn, St.bare, Bool.false_and, Bool.true_and, Bool.and_true, Bool.not_true, Bool.not_false, Int.reduceToNat, Nat.reduceBEq, Nat.reduceEqDiff, Nat.reduceAdd, Nat.reduceMul, Nat.reduceLeDiff, Nat.reduceLT, Nat.reduceSub, ↓reduceIte, reduceCtorEq, ha, hb]; (repeat (refine And.intro (by first | assumption | omega | decide | (simp; done) | (simp; omega)) ?_)); refine hKq _ ?_; clear hKq Kq)
  refine evR_nil (hK _ ?_); clear hK K
  simp only [St.norm, thenE, inBlkE, List.filterMap, List.lookup, Option.map, Nat.reduceBEq]
  refine hK4 _ ?_
  refine tr_block ?_
  -- loop 1: live [2, 3, 4, 5, 6]
  refine tr_loopW (fun m σ => ∃ y : Nat, y + m = 16 ∧ (y = 0 ∨ validA b = true) ∧ σ = ⟨[(2, .ptr 0 0), (3, .ptr 1 0), (4, .ptr 2 0), (5, .ptr 3 0), (6, .int .i64 y)], [(3, .cells (cellsI (outA (fun j => rowG (fun x y => gA a x y && !gA b x y) j 16) y))), (2, .cells (cellsI (List.replicate 16 0))), (1, .cells (cellsI b)), (0, .cells (cellsI a))], 4⟩) (16) ?_ ?_
  · exact ⟨_, Wk.refl _, 0, by omega, .inl rfl, by rw [outA_zero]; rfl⟩
  · rintro m σ ⟨y, hi, hmid, rfl⟩ KL1 hKL1
    refine tr_seq fun K5 hK5 => ?_
    refine tr_seq fun K6 hK6 => ?_
    refine tr_region [2, 3, 4, 5, 6, 13] rfl rfl fun K hK => ?_
    iterate 3 (refine evR_step fun Kq hKq => ?_; simp (maxSteps := 4000000) (disch := first | assumption | omega | (simp only [go_sem, *]; done) | (simp only [go_sem, *]; omega)) only [go_sem, isE, isO, stpO, notIn, St.bare, Bool.false_and, Bool.true_and, Bool.and_true, Bool.not_true, Bool.not_false, Int.reduceToNat, Nat.reduceBEq, Nat.reduceEqDiff, Nat.reduceAdd, Nat.reduceMul, Nat.reduceLeDiff, Nat.reduceLT, Nat.reduceSub, ↓reduceIte, reduceCtorEq, ha, hb]; (repeat (refine And.intro (by first | assumption | omega | decide | (simp; done) | (simp; omega)) ?_)); refine hKq _ ?_; clear hKq Kq)
    iterate 1 (refine evR_step fun Kq hKq => ?_; refine evO_guard (gb := ?_) (v0 := ?_) rfl ?_ ?_ ?_; rotate_left 1; (· intro K3 h3; simp (maxSteps := 4000000) (disch := first | assumption | omega | (simp only [go_sem, *]; done) | (simp only [go_sem, *]; omega)) only [go_sem, isE, isO, stpO, notIn, St.bare, Bool.false_and, Bool.true_and, Bool.and_true, Bool.not_true, Bool.not_false, Int.reduceToNat, Nat.reduceBEq, Nat.reduceEqDiff, Nat.reduceAdd, Nat.reduceMul, Nat.reduceLeDiff, Nat.reduceLT, Nat.reduceSub, ↓reduceIte, reduceCtorEq, ha, hb]; exact h3); rotate_left 1; (· intro hgt; (try simp only [decide_eq_true_eq, decide_eq_false_iff_not, Bool.not_eq_true', Bool.not_eq_false', Bool.and_eq_true, Bool.or_eq_true, Bool.and_eq_false_iff, Bool.or_eq_false_iff, beq_true, beq_false] at hgt); simp (maxSteps := 4000000) (disch := first | assumption | omega | (simp only [go_sem, *]; done) | (simp only [go_sem, *]; omega)) only [go_sem, isE, isO, stpO, notIn, St.bare, Bool.false_and, Bool.true_and, Bool.and_true, Bool.not_true, Bool.not_false, Int.reduceToNat, Nat.reduceBEq, Nat.reduceEqDiff, Nat.reduceAdd, Nat.reduceMul, Nat.reduceLeDiff, Nat.reduceLT, Nat.reduceSub, ↓reduceIte, reduceCtorEq, ha, hb]; (repeat (refine And.intro (by first | assumption | omega | decide | (simp; done) | (simp; omega)) ?_)); first | rfl | exact ⟨rfl, rfl⟩); simp only [St.put]; refine hKq _ ?_; clear hKq Kq)
    refine evR_step fun Kq hKq => ?_; refine evO_guard (gb := ?_) (v0 := ?_) rfl ?_ ?_ ?_; rotate_left 1; (· intro K3 h3; simp (maxSteps := 4000000) (disch := first | assumption | omega | (simp only [go_sem, *]; done) | (simp only [go_sem, *]; omega)) only [go_sem, isE, isO, stpO, notIn, St.bare, Bool.false_and, Bool.true_and, Bool.and_true, Bool.not_true, Bool.not_false, Int.reduceToNat, Nat.reduceBEq, Nat.reduceEqDiff, Nat.reduceAdd, Nat.reduceMul, Nat.reduceLeDiff, Nat.reduceLT, Nat.reduceSub, ↓reduceIte, reduceCtorEq, ha, hb]; exact h3); rotate_left 1
    · intro hgt; (try simp only [decide_eq_true_eq, decide_eq_false_iff_not, Bool.not_eq_true', Bool.not_eq_false', Bool.and_eq_true, Bool.or_eq_true, Bool.and_eq_false_iff, Bool.or_eq_false_iff, beq_true, beq_false] at hgt); simp (maxSteps := 4000000) (disch := first | assumption | omega | (simp only [go_sem, *]; done) | (simp only [go_sem, *]; omega)) only [go_sem, isE, isO, stpO, notIn, St.bare, Bool.false_and, Bool.true_and, Bool.and_true, Bool.not_true, Bool.not_false, Int.reduceToNat, Nat.reduceBEq, Nat.reduceEqDiff, Nat.reduceAdd, Nat.reduceMul, Nat.reduceLeDiff, Nat.reduceLT, Nat.reduceSub, ↓reduceIte, reduceCtorEq, ha, hb]; (repeat (refine And.intro (by first | assumption | omega | decide | (simp; done) | (simp; omega)) ?_))
      refine ⟨_, (c14 _ (by assumption)), ?_⟩
      first | rfl | exact ⟨rfl, rfl⟩
    simp only [St.put]; refine hKq _ ?_; clear hKq Kq
    iterate 1 (refine evR_step fun Kq hKq => ?_; simp (maxSteps := 4000000) (disch := first | assumption | omega | (simp only [go_sem, *]; done) | (simp only [go_sem, *]; omega)) only [go_sem, isE, isO, stpO, notIn, St.bare, Bool.false_and, Bool.true_and, Bool.and_true, Bool.not_true, Bool.not_false, Int.reduceToNat, Nat.reduceBEq, Nat.reduceEqDiff, Nat.reduceAdd, Nat.reduceMul, Nat.reduceLeDiff, Nat.reduceLT, Nat.reduceSub, ↓reduceIte, reduceCtorEq, ha, hb]; (repeat (refine And.intro (by first | assumption | omega | decide | (simp; done) | (simp; omega)) ?_)); refine hKq _ ?_; clear hKq Kq)
    refine evR_nil (hK _ ?_); clear hK K
    simp only [St.norm, thenE, inBlkE, List.filterMap, List.lookup, Option.map, Nat.reduceBEq]
    refine hK6 _ ?_
    refine tr_cond rfl (fun ht1 => ?_) (fun ht1 => ?_)
    · (try simp only [decide_eq_true_eq, decide_eq_false_iff_not, Bool.not_eq_true', Bool.not_eq_false', Bool.and_eq_true, Bool.or_eq_true, Bool.and_eq_false_iff, Bool.or_eq_false_iff, beq_true, beq_false] at ht1)
      have hil : y < 16 := by omega
      refine tr_skip ?_
      (try simp only [thenE, inBlkE])
      refine hK5 _ ?_
      refine tr_seq fun K7 hK7 => ?_
      refine tr_block ?_
      refine tr_seq fun K8 hK8 => ?_
      refine tr_region [2, 3, 4, 5, 6, 7] rfl rfl fun K hK => ?_
      iterate 1 (refine evR_step fun Kq hKq => ?_; simp (maxSteps := 4000000) (disch := first | assumption | omega | (simp only [go_sem, *]; done) | (simp only [go_sem, *]; omega)) only [go_sem, isE, isO, stpO, notIn, St.bare, Bool.false_and, Bool.true_and, Bool.and_true, Bool.not_true, Bool.not_false, Int.reduceToNat, Nat.reduceBEq, Nat.reduceEqDiff, Nat.reduceAdd, Nat.reduceMul, Nat.reduceLeDiff, Nat.reduceLT, Nat.reduceSub, ↓reduceIte, reduceCtorEq, ha, hb]; (repeat (refine And.intro (by first | assumption | omega | decide | (simp; done) | (simp; omega)) ?_)); refine hKq _ ?_; clear hKq Kq)
      refine evR_nil (hK _ ?_); clear hK K
      simp only [St.norm, thenE, inBlkE, List.filterMap, List.lookup, Option.map, Nat.reduceBEq]
      refine hK8 _ ?_
      refine tr_block ?_
      -- loop 2: live [2, 3, 4, 5, 6, 7]
      refine tr_loopW (fun m σ => ∃ x : Nat, x + m = 16 ∧ σ = ⟨[(2, .ptr 0 0), (3, .ptr 1 0), (4, .ptr 2 0), (5, .ptr 3 0), (6, .int .i64 y), (7, .int .i64 x)], [(3, .cells (cellsI ((outA (fun j => rowG (fun x y => gA a x y && !gA b x y) j 16) y).set y (rowG (fun x y => gA a x y && !gA b x y) y x)))), (2, .cells (cellsI (List.replicate 16 0))), (1, .cells (cellsI b)), (0, .cells (cellsI a))], 4⟩) (16) ?_ ?_
      · exact ⟨_, Wk.refl _, 0, by omega, by rw [outR_zero (fun x y => gA a x y && !gA b x y) hil]; rfl⟩
      · rintro m2 σ ⟨x, hx, rfl⟩ KL2 hKL2
        refine tr_seq fun K9 hK9 => ?_
        refine tr_seq fun K10 hK10 => ?_
        refine tr_region [2, 3, 4, 5, 6, 7, 17] rfl rfl fun K hK => ?_
        iterate 2 (refine evR_step fun Kq hKq => ?_; simp (maxSteps := 4000000) (disch := first | assumption | omega | (simp only [go_sem, *]; done) | (simp only [go_sem, *]; omega)) only [go_sem, isE, isO, stpO, notIn, St.bare, Bool.false_and, Bool.true_and, Bool.and_true, Bool.not_true, Bool.not_false, Int.reduceToNat, Nat.reduceBEq, Nat.reduceEqDiff, Nat.reduceAdd, Nat.reduceMul, Nat.reduceLeDiff, Nat.reduceLT, Nat.reduceSub, ↓reduceIte, reduceCtorEq, ha, hb]; (repeat (refine And.intro (by first | assumption | omega | decide | (simp; done) | (simp; omega)) ?_)); refine hKq _ ?_; clear hKq Kq)
        refine evR_nil (hK _ ?_); clear hK K
        simp only [St.norm, thenE, inBlkE, List.filterMap, List.lookup, Option.map, Nat.reduceBEq]
        refine hK10 _ ?_
        refine tr_cond rfl (fun ht2 => ?_) (fun ht2 => ?_)
        · (try simp only [decide_eq_true_eq, decide_eq_false_iff_not, Bool.not_eq_true', Bool.not_eq_false', Bool.and_eq_true, Bool.or_eq_true, Bool.and_eq_false_iff, Bool.or_eq_false_iff, beq_true, beq_false] at ht2)
          have hxl : x < 16 := by omega
          refine tr_skip ?_
          (try simp only [thenE, inBlkE])
          refine hK9 _ ?_
          refine tr_seq fun K11 hK11 => ?_
          refine tr_block ?_
          refine tr_seq fun K12 hK12 => ?_
          refine tr_region [2, 3, 4, 5, 6, 7, 30] rfl rfl fun K hK => ?_
          iterate 3 (refine evR_step fun Kq hKq => ?_; simp (maxSteps := 4000000) (disch := first | assumption | omega | (simp only [go_sem, *]; done) | (simp only [go_sem, *]; omega)) only [go_sem, isE, isO, stpO, notIn, St.bare, Bool.false_and, Bool.true_and, Bool.and_true, Bool.not_true, Bool.not_false, Int.reduceToNat, Nat.reduceBEq, Nat.reduceEqDiff, Nat.reduceAdd, Nat.reduceMul, Nat.reduceLeDiff, Nat.reduceLT, Nat.reduceSub, ↓reduceIte, reduceCtorEq, ha, hb]; (repeat (refine And.intro (by first | assumption | omega | decide | (simp; done) | (simp; omega)) ?_)); refine hKq _ ?_; clear hKq Kq)
          refine evR_step fun Kq hKq => ?_
          simp (maxSteps := 4000000) (disch := first | assumption | omega | (simp only [go_sem, *]; done) | (simp only [go_sem, *]; omega)) only [go_sem, isE, isO, stpO, notIn, St.bare, Bool.false_and, Bool.true_and, Bool.and_true, Bool.not_true, Bool.not_false, Int.reduceToNat, Nat.reduceBEq, Nat.reduceEqDiff, Nat.reduceAdd, Nat.reduceMul, Nat.reduceLeDiff, Nat.reduceLT, Nat.reduceSub, ↓reduceIte, reduceCtorEq, ha, hb]
          (repeat (refine And.intro (by first | assumption | omega | decide | (simp; done) | (simp; omega)) ?_))
          refine ⟨_, (c26 _ (by assumption) _ _), ?_⟩
          refine hKq _ ?_; clear hKq Kq
          iterate 1 (refine evR_step fun Kq hKq => ?_; simp (maxSteps := 4000000) (disch := first | assumption | omega | (simp only [go_sem, *]; done) | (simp only [go_sem, *]; omega)) only [go_sem, isE, isO, stpO, notIn, St.bare, Bool.false_and, Bool.true_and, Bool.and_true, Bool.not_true, Bool.not_false, Int.reduceToNat, Nat.reduceBEq, Nat.reduceEqDiff, Nat.reduceAdd, Nat.reduceMul, Nat.reduceLeDiff, Nat.reduceLT, Nat.reduceSub, ↓reduceIte, reduceCtorEq, ha, hb]; (repeat (refine And.intro (by first | assumption | omega | decide | (simp; done) | (simp; omega)) ?_)); refine hKq _ ?_; clear hKq Kq)
          iterate 3 (refine evR_step fun Kq hKq => ?_; refine evO_guard (gb := ?_) (v0 := ?_) rfl ?_ ?_ ?_; rotate_left 1; (· intro K3 h3; simp (maxSteps := 4000000) (disch := first | assumption | omega | (simp only [go_sem, *]; done) | (simp only [go_sem, *]; omega)) only [go_sem, isE, isO, stpO, notIn, St.bare, Bool.false_and, Bool.true_and, Bool.and_true, Bool.not_true, Bool.not_false, Int.reduceToNat, Nat.reduceBEq, Nat.reduceEqDiff, Nat.reduceAdd, Nat.reduceMul, Nat.reduceLeDiff, Nat.reduceLT, Nat.reduceSub, ↓reduceIte, reduceCtorEq, ha, hb]; exact h3); rotate_left 1; (· intro hgt; (try simp only [decide_eq_true_eq, decide_eq_false_iff_not, Bool.not_eq_true', Bool.not_eq_false', Bool.and_eq_true, Bool.or_eq_true, Bool.and_eq_false_iff, Bool.or_eq_false_iff, beq_true, beq_false] at hgt); simp (maxSteps := 4000000) (disch := first | assumption | omega | (simp only [go_sem, *]; done) | (simp only [go_sem, *]; omega)) only [go_sem, isE, isO, stpO, notIn, St.bare, Bool.false_and, Bool.true_and, Bool.and_true, Bool.not_true, Bool.not_false, Int.reduceToNat, Nat.reduceBEq, Nat.reduceEqDiff, Nat.reduceAdd, Nat.reduceMul, Nat.reduceLeDiff, Nat.reduceLT, Nat.reduceSub, ↓reduceIte, reduceCtorEq, ha, hb]; (repeat (refine And.intro (by first | assumption | omega | decide | (simp; done) | (simp; omega)) ?_)); first | rfl | exact ⟨rfl, rfl⟩); simp only [St.put]; refine hKq _ ?_; clear hKq Kq)
          refine evR_step fun Kq hKq => ?_; refine evO_guard (gb := ?_) (v0 := ?_) rfl ?_ ?_ ?_; rotate_left 1; (· intro K3 h3; simp (maxSteps := 4000000) (disch := first | assumption | omega | (simp only [go_sem, *]; done) | (simp only [go_sem, *]; omega)) only [go_sem, isE, isO, stpO, notIn, St.bare, Bool.false_and, Bool.true_and, Bool.and_true, Bool.not_true, Bool.not_false, Int.reduceToNat, Nat.reduceBEq, Nat.reduceEqDiff, Nat.reduceAdd, Nat.reduceMul, Nat.reduceLeDiff, Nat.reduceLT, Nat.reduceSub, ↓reduceIte, reduceCtorEq, ha, hb]; exact h3); rotate_left 1
          · intro hgt; (try simp only [decide_eq_true_eq, decide_eq_false_iff_not, Bool.not_eq_true', Bool.not_eq_false', Bool.and_eq_true, Bool.or_eq_true, Bool.and_eq_false_iff, Bool.or_eq_false_iff, beq_true, beq_false] at hgt); simp (maxSteps := 4000000) (disch := first | assumption | omega | (simp only [go_sem, *]; done) | (simp only [go_sem, *]; omega)) only [go_sem, isE, isO, stpO, notIn, St.bare, Bool.false_and, Bool.true_and, Bool.and_true, Bool.not_true, Bool.not_false, Int.reduceToNat, Nat.reduceBEq, Nat.reduceEqDiff, Nat.reduceAdd, Nat.reduceMul, Nat.reduceLeDiff, Nat.reduceLT, Nat.reduceSub, ↓reduceIte, reduceCtorEq, ha, hb]; (repeat (refine And.intro (by first | assumption | omega | decide | (simp; done) | (simp; omega)) ?_))
            refine ⟨_, (c26 _ (by assumption) _ _), ?_⟩
            first | rfl | exact ⟨rfl, rfl⟩
          simp only [St.put]; refine hKq _ ?_; clear hKq Kq
          iterate 1 (refine evR_step fun Kq hKq => ?_; refine evO_guard (gb := ?_) (v0 := ?_) rfl ?_ ?_ ?_; rotate_left 1; (· intro K3 h3; simp (maxSteps := 4000000) (disch := first | assumption | omega | (simp only [go_sem, *]; done) | (simp only [go_sem, *]; omega)) only [go_sem, isE, isO, stpO, notIn, St.bare, Bool.false_and, Bool.true_and, Bool.and_true, Bool.not_true, Bool.not_false, Int.reduceToNat, Nat.reduceBEq, Nat.reduceEqDiff, Nat.reduceAdd, Nat.reduceMul, Nat.reduceLeDiff, Nat.reduceLT, Nat.reduceSub, ↓reduceIte, reduceCtorEq, ha, hb]; exact h3); rotate_left 1; (· intro hgt; (try simp only [decide_eq_true_eq, decide_eq_false_iff_not, Bool.not_eq_true', Bool.not_eq_false', Bool.and_eq_true, Bool.or_eq_true, Bool.and_eq_false_iff, Bool.or_eq_false_iff, beq_true, beq_false] at hgt); simp (maxSteps := 4000000) (disch := first | assumption | omega | (simp only [go_sem, *]; done) | (simp only [go_sem, *]; omega)) only [go_sem, isE, isO, stpO, notIn, St.bare, Bool.false_and, Bool.true_and, Bool.and_true, Bool.not_true, Bool.not_false, Int.reduceToNat, Nat.reduceBEq, Nat.reduceEqDiff, Nat.reduceAdd, Nat.reduceMul, Nat.reduceLeDiff, Nat.reduceLT, Nat.reduceSub, ↓reduceIte, reduceCtorEq, ha, hb]; (repeat (refine And.intro (by first | assumption | omega | decide | (simp; done) | (simp; omega)) ?_)); first | rfl | exact ⟨rfl, rfl⟩); simp only [St.put]; refine hKq _ ?_; clear hKq Kq)
          iterate 1 (refine evR_step fun Kq hKq => ?_; simp (maxSteps := 4000000) (disch := first | assumption | omega | (simp only [go_sem, *]; done) | (simp only [go_sem, *]; omega)) only [go_sem, isE, isO, stpO, notIn, St.bare, Bool.false_and, Bool.true_and, Bool.and_true, Bool.not_true, Bool.not_false, Int.reduceToNat, Nat.reduceBEq, Nat.reduceEqDiff, Nat.reduceAdd, Nat.reduceMul, Nat.reduceLeDiff, Nat.reduceLT, Nat.reduceSub, ↓reduceIte, reduceCtorEq, ha, hb]; (repeat (refine And.intro (by first | assumption | omega | decide | (simp; done) | (simp; omega)) ?_)); refine hKq _ ?_; clear hKq Kq)
          refine evR_nil (hK _ ?_); clear hK K
          simp only [St.norm, thenE, inBlkE, List.filterMap, List.lookup, Option.map, Nat.reduceBEq]
          refine hK12 _ ?_
          refine tr_cond rfl (fun ht3 => ?_) (fun ht3 => ?_)
          · (try simp only [decide_eq_true_eq, decide_eq_false_iff_not, Bool.not_eq_true', Bool.not_eq_false', Bool.and_eq_true, Bool.or_eq_true, Bool.and_eq_false_iff, Bool.or_eq_false_iff, beq_true, beq_false] at ht3)
            refine tr_draw [] [2, 3, 4, 5, 6, 7] mixed rfl (by kernel_rfl) rfl fun K hK => ?_
            iterate 9 (refine evD_step fun Kq hKq => ?_; simp (maxSteps := 4000000) (disch := first | assumption | omega | (simp only [go_sem, *]; done) | (simp only [go_sem, *]; omega)) only [go_sem, isE, isO, stpO, notIn, St.bare, Bool.false_and, Bool.true_and, Bool.and_true, Bool.not_true, Bool.not_false, Int.reduceToNat, Nat.reduceBEq, Nat.reduceEqDiff, Nat.reduceAdd, Nat.reduceMul, Nat.reduceLeDiff, Nat.reduceLT, Nat.reduceSub, ↓reduceIte, reduceCtorEq, ha, hb]; (repeat (refine And.intro (by first | assumption | omega | decide | (simp; done) | (simp; omega)) ?_)); refine hKq _ ?_; clear hKq Kq)
            refine evD_nil (hK _ ?_); clear hK K
            simp only [St.norm, thenE, inBlkE, List.filterMap, List.lookup, Option.map, Nat.reduceBEq]
            refine hK11 _ ?_
            refine tr_region [2, 3, 4, 5, 6, 7] rfl rfl fun K hK => ?_
            iterate 3 (refine evR_step fun Kq hKq => ?_; simp (maxSteps := 4000000) (disch := first | assumption | omega | (simp only [go_sem, *]; done) | (simp only [go_sem, *]; omega)) only [go_sem, isE, isO, stpO, notIn, St.bare, Bool.false_and, Bool.true_and, Bool.and_true, Bool.not_true, Bool.not_false, Int.reduceToNat, Nat.reduceBEq, Nat.reduceEqDiff, Nat.reduceAdd, Nat.reduceMul, Nat.reduceLeDiff, Nat.reduceLT, Nat.reduceSub, ↓reduceIte, reduceCtorEq, ha, hb]; (repeat (refine And.intro (by first | assumption | omega | decide | (simp; done) | (simp; omega)) ?_)); refine hKq _ ?_; clear hKq Kq)
            refine evR_nil (hK _ ?_); clear hK K
            simp only [St.norm, thenE, inBlkE, List.filterMap, List.lookup, Option.map, Nat.reduceBEq]
            refine hKL2 _ ?_
            first
              | exact ⟨m2 - 1, _, by omega, Wk.refl _, x + 1, by omega, by rw [w64 (x := (x : Int) + 1) (by omega), rowG_add (fun x y => gA a x y && !gA b x y) hxl (by simp only [gA]; rcases Bool.eq_false_or_eq_true (hasA a x y) with h1 | h1 <;> rcases Bool.eq_false_or_eq_true (hasA b x y) with h2 | h2 <;> simp_all)]; rfl⟩
              | exact ⟨m2 - 1, _, by omega, Wk.refl _, x + 1, by omega, by rw [w64 (x := (x : Int) + 1) (by omega), rowG_skip (fun x y => gA a x y && !gA b x y) (by simp only [gA]; rcases Bool.eq_false_or_eq_true (hasA a x y) with h1 | h1 <;> rcases Bool.eq_false_or_eq_true (hasA b x y) with h2 | h2 <;> simp_all)]; rfl⟩
          · (try simp only [decide_eq_true_eq, decide_eq_false_iff_not, Bool.not_eq_true', Bool.not_eq_false', Bool.and_eq_true, Bool.or_eq_true, Bool.and_eq_false_iff, Bool.or_eq_false_iff, beq_true, beq_false] at ht3)
            refine tr_skip ?_
            (try simp only [thenE, inBlkE])
            refine hK11 _ ?_
            refine tr_region [2, 3, 4, 5, 6, 7] rfl rfl fun K hK => ?_
            iterate 3 (refine evR_step fun Kq hKq => ?_; simp (maxSteps := 4000000) (disch := first | assumption | omega | (simp only [go_sem, *]; done) | (simp only [go_sem, *]; omega)) only [go_sem, isE, isO, stpO, notIn, St.bare, Bool.false_and, Bool.true_and, Bool.and_true, Bool.not_true, Bool.not_false, Int.reduceToNat, Nat.reduceBEq, Nat.reduceEqDiff, Nat.reduceAdd, Nat.reduceMul, Nat.reduceLeDiff, Nat.reduceLT, Nat.reduceSub, ↓reduceIte, reduceCtorEq, ha, hb]; (repeat (refine And.intro (by first | assumption | omega | decide | (simp; done) | (simp; omega)) ?_)); refine hKq _ ?_; clear hKq Kq)
            refine evR_nil (hK _ ?_); clear hK K
            simp only [St.norm, thenE, inBlkE, List.filterMap, List.lookup, Option.map, Nat.reduceBEq]
            refine hKL2 _ ?_
            first
              | exact ⟨m2 - 1, _, by omega, Wk.refl _, x + 1, by omega, by rw [w64 (x := (x : Int) + 1) (by omega), rowG_add (fun x y => gA a x y && !gA b x y) hxl (by simp only [gA]; rcases Bool.eq_false_or_eq_true (hasA a x y) with h1 | h1 <;> rcases Bool.eq_false_or_eq_true (hasA b x y) with h2 | h2 <;> simp_all)]; rfl⟩
              | exact ⟨m2 - 1, _, by omega, Wk.refl _, x + 1, by omega, by rw [w64 (x := (x : Int) + 1) (by omega), rowG_skip (fun x y => gA a x y && !gA b x y) (by simp only [gA]; rcases Bool.eq_false_or_eq_true (hasA a x y) with h1 | h1 <;> rcases Bool.eq_false_or_eq_true (hasA b x y) with h2 | h2 <;> simp_all)]; rfl⟩
        · (try simp only [decide_eq_true_eq, decide_eq_false_iff_not, Bool.not_eq_true', Bool.not_eq_false', Bool.and_eq_true, Bool.or_eq_true, Bool.and_eq_false_iff, Bool.or_eq_false_iff, beq_true, beq_false] at ht2)
          have hxl : x = 16 := by omega
          subst hxl
          refine tr_exit ?_
          simp only [thenE, inBlkE, Nat.reduceEqDiff, ↓reduceIte]
          refine hK7 _ ?_
          refine tr_region [2, 3, 4, 5, 6] rfl rfl fun K hK => ?_
          iterate 3 (refine evR_step fun Kq hKq => ?_; simp (maxSteps := 4000000) (disch := first | assumption | omega | (simp only [go_sem, *]; done) | (simp only [go_sem, *]; omega)) only [go_sem, isE, isO, stpO, notIn, St.bare, Bool.false_and, Bool.true_and, Bool.and_true, Bool.not_true, Bool.not_false, Int.reduceToNat, Nat.reduceBEq, Nat.reduceEqDiff, Nat.reduceAdd, Nat.reduceMul, Nat.reduceLeDiff, Nat.reduceLT, Nat.reduceSub, ↓reduceIte, reduceCtorEq, ha, hb]; (repeat (refine And.intro (by first | assumption | omega | decide | (simp; done) | (simp; omega)) ?_)); refine hKq _ ?_; clear hKq Kq)
          refine evR_nil (hK _ ?_); clear hK K
          simp only [St.norm, thenE, inBlkE, List.filterMap, List.lookup, Option.map, Nat.reduceBEq]
          refine hKL1 _ ?_
          exact ⟨m - 1, _, by omega, Wk.refl _, y + 1, by omega, (by simp_all), by rw [w64 (x := (y : Int) + 1) (by omega), outA_set (fun j => rowG (fun x y => gA a x y && !gA b x y) j 16) hil]; rfl⟩
    · (try simp only [decide_eq_true_eq, decide_eq_false_iff_not, Bool.not_eq_true', Bool.not_eq_false', Bool.and_eq_true, Bool.or_eq_true, Bool.and_eq_false_iff, Bool.or_eq_false_iff, beq_true, beq_false] at ht1)
      skip
      refine tr_exit ?_
      simp only [thenE, inBlkE, Nat.reduceEqDiff, ↓reduceIte]
      refine hK3 _ ?_
      refine tr_seq fun K13 hK13 => ?_
      refine tr_region [4] rfl rfl fun K hK => ?_
      iterate 2 (refine evR_step fun Kq hKq => ?_; simp (maxSteps := 4000000) (disch := first | assumption | omega | (simp only [go_sem, *]; done) | (simp only [go_sem, *]; omega)) only [go_sem, isE, isO, stpO, notIn, St.bare, Bool.false_and, Bool.true_and, Bool.and_true, Bool.not_true, Bool.not_false, Int.reduceToNat, Nat.reduceBEq, Nat.reduceEqDiff, Nat.reduceAdd, Nat.reduceMul, Nat.reduceLeDiff, Nat.reduceLT, Nat.reduceSub, ↓reduceIte, reduceCtorEq, ha, hb]; (repeat (refine And.intro (by first | assumption | omega | decide | (simp; done) | (simp; omega)) ?_)); refine hKq _ ?_; clear hKq Kq)
      refine evR_nil (hK _ ?_); clear hK K
      simp only [St.norm, thenE, inBlkE, List.filterMap, List.lookup, Option.map, Nat.reduceBEq]
      refine hK13 _ ?_
      refine tr_ret ?_
      (try simp only [thenE, inBlkE])
      simp (maxSteps := 4000000) (disch := first | assumption | omega | (simp only [go_sem, *]; done) | (simp only [go_sem, *]; omega)) only [postA, postO, resV1, fzAll, go_sem, isE, isO, stpO, notIn, St.bare, Bool.false_and, Bool.true_and, Bool.and_true, Bool.not_true, Bool.not_false, Int.reduceToNat, Nat.reduceBEq, Nat.reduceEqDiff, Nat.reduceAdd, Nat.reduceMul, Nat.reduceLeDiff, Nat.reduceLT, Nat.reduceSub, ↓reduceIte, reduceCtorEq, ha, hb]
      all_goals
        rcases hmid with h0 | h0
        · subst h0
          rcases ht1 with h | h
          · omega
          · rw [outA_zero, minusA, each_bad (.inr h)]; rfl
        · rcases ht1 with h | h
          · have e : y = 16 := by omega
            subst e; rw [minus_ref ha hb h0]; rfl
          · simp [h0] at h

end Go.Proofs.Ytpaielaniekdbaa

