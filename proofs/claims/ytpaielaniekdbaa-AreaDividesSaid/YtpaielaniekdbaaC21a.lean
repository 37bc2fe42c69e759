import Derived.Test.YtpaielaniekdbaaF21
import Derived.Test.YtpaielaniekdbaaP21
namespace Go.Proofs.Ytpaielaniekdbaa
open Go.RowKit
set_option linter.unusedVariables false
set_option linter.unusedSimpArgs false
attribute [local go_sem] Nat.zero_add Nat.add_zero Nat.mul_one eq_self ne_eq not_true_eq_false not_false_eq_true decide_true decide_false decide_not Bool.false_eq_true List.filter_cons List.filter_nil true_and and_true beq_false beq_true Bool.not_true Bool.not_false Bool.and_true Bool.true_and Option.getD_some Option.getD_none imp_self implies_true Int.toNat_natCast List.cons_append List.nil_append List.map_cons List.map_nil List.length_cons List.length_nil List.getD_cons_zero List.getD_cons_succ List.drop_zero List.drop_succ_cons List.take_succ_cons List.take_zero
attribute [local go_sem] evO evDO isEff stp St.get St.slot St.put List.lookup un unL ofVal gof nth pickV pkB_false pkB_true binV unV loadV idxV fldV partV buildV fillV lenV sliV appV appR rowsV winV V.parts V.okp V.sc Mem.look_cons Mem.look_nil V.cl V.clL AObj.clo fzAll exps St.fz Mem.fz V.fz V.fzL AObj.fz arT_23 arT_24 arT_25 arT_26 arT_27 arT_32 arT_41 arT_49 arT_9 boolT_23 boolT_3 boolT_4 boolT_43 flatT_23 flatT_3 flatT_4 flatT_43 intT_3 intT_5 intT_61 intT_69 intT_71 lay_23 lay_26 lay_27 lay_29 lay_3 okF_10 okF_11 okF_12 okF_13 okF_14 okF_15 okF_16 okF_17 okF_18 okF_19 okF_20 okF_21 okF_22 okF_23 okF_24 okF_25 okF_26 okF_27 okF_28 okF_29 okF_3 okF_30 okF_31 okF_32 okF_33 okF_34 okF_35 okF_36 okF_37 okF_38 okF_39 okF_4 okF_40 okF_41 okF_42 okF_43 okF_44 okF_45 okF_46 okF_47 okF_48 okF_49 okF_5 okF_50 okF_51 okF_52 okF_53 okF_54 okF_55 okF_56 okF_57 okF_58 okF_59 okF_6 okF_60 okF_61 okF_62 okF_7 okF_8 okF_9 plT_23 plT_26 plT_29 slT_23 slT_24 slT_25 slT_26 slT_27 slT_32 slT_41 slT_49 stT_29_0 stT_29_1 zeroT_23 zeroT_26 zeroT_27 zeroT_29 zeroT_3
attribute [local go_sem] cellsI_length cellsI_sc cellsI_cl cellsI_rows cellsI_take cellsI_dropD cellsI_set cellsI_full encI_length encI_getD List.length_set List.length_replicate List.all_cons List.all_nil outA_length eachA_length outM_length getD_set_same List.set_set spl_nil0 spl_cons0 spl_succ encP_length encP_getD
theorem c42 (x : Int) : CallsA Try.prog 42 [.int .i64 x] (.bool (decide (x < 0) || decide (65535 < x))) := by
  refine callsA_of_tr Try.func42 rfl (Nat.le_of_ble_eq_true rfl) ?_
  simp only [Try.results42, envOf, Nat.reduceAdd]
  refine tr_seq fun K1 hK1 => ?_
  refine tr_region [0] rfl rfl fun K hK => ?_
  iterate 1 (refine evR_step fun Kq hKq => ?_; simp (maxSteps := 4000000) (disch := first | assumption | omega | (simp only [go_sem, *]; done) | (simp only [go_sem, *]; omega)) only [go_sem, isE, isO, stpO, notIn, St.bare, Bool.false_and, Bool.true_and, Bool.and_true, Bool.not_true, Bool.not_false, Int.reduceToNat, Nat.reduceBEq, Nat.reduceEqDiff, Nat.reduceAdd, Nat.reduceMul, Nat.reduceLeDiff, Nat.reduceLT, Nat.reduceSub, ↓reduceIte, reduceCtorEq]; (repeat (refine And.intro (by first | assumption | omega | decide | (simp; done) | (simp; omega)) ?_)); refine hKq _ ?_; clear hKq Kq)
  refine evR_nil (hK _ ?_); clear hK K
  simp only [St.norm, thenE, inBlkE, List.filterMap, List.lookup, Option.map, Nat.reduceBEq]
  refine hK1 _ ?_
  refine tr_seq fun K2 hK2 => ?_
  refine tr_region [2] rfl rfl fun K hK => ?_
  iterate 3 (refine evR_step fun Kq hKq => ?_; simp (maxSteps := 4000000) (disch := first | assumption | omega | (simp only [go_sem, *]; done) | (simp only [go_sem, *]; omega)) only [go_sem, isE, isO, stpO, notIn, St.bare, Bool.false_and, Bool.true_and, Bool.and_true, Bool.not_true, Bool.not_false, Int.reduceToNat, Nat.reduceBEq, Nat.reduceEqDiff, Nat.reduceAdd, Nat.reduceMul, Nat.reduceLeDiff, Nat.reduceLT, Nat.reduceSub, ↓reduceIte, reduceCtorEq]; (repeat (refine And.intro (by first | assumption | omega | decide | (simp; done) | (simp; omega)) ?_)); refine hKq _ ?_; clear hKq Kq)
  iterate 2 (refine evR_step fun Kq hKq => ?_; refine evO_guard (gb := ?_) (v0 := ?_) rfl ?_ ?_ ?_; rotate_left 1; (· intro K3 h3; simp (maxSteps := 4000000) (disch := first | assumption | omega | (simp only [go_sem, *]; done) | (simp only [go_sem, *]; omega)) only [go_sem, isE, isO, stpO, notIn, St.bare, Bool.false_and, Bool.true_and, Bool.and_true, Bool.not_true, Bool.not_false, Int.reduceToNat, Nat.reduceBEq, Nat.reduceEqDiff, Nat.reduceAdd, Nat.reduceMul, Nat.reduceLeDiff, Nat.reduceLT, Nat.reduceSub, ↓reduceIte, reduceCtorEq]; exact h3); rotate_left 1; (· intro hgt; (try simp only [decide_eq_true_eq, decide_eq_false_iff_not, Bool.not_eq_true', Bool.not_eq_false', Bool.and_eq_true, Bool.or_eq_true, Bool.and_eq_false_iff, Bool.or_eq_false_iff, beq_true, beq_false] at hgt); simp (maxSteps := 4000000) (disch := first | assumption | omega | (simp only [go_sem, *]; done) | (simp only [go_sem, *]; omega)) only [go_sem, isE, isO, stpO, notIn, St.bare, Bool.false_and, Bool.true_and, Bool.and_true, Bool.not_true, Bool.not_false, Int.reduceToNat, Nat.reduceBEq, Nat.reduceEqDiff, Nat.reduceAdd, Nat.reduceMul, Nat.reduceLeDiff, Nat.reduceLT, Nat.reduceSub, ↓reduceIte, reduceCtorEq]; (repeat (refine And.intro (by first | assumption | omega | decide | (simp; done) | (simp; omega)) ?_)); first | rfl | exact ⟨rfl, rfl⟩); simp only [St.put]; refine hKq _ ?_; clear hKq Kq)
  iterate 2 (refine evR_step fun Kq hKq => ?_; simp (maxSteps := 4000000) (disch := first | assumption | omega | (simp only [go_sem, *]; done) | (simp only [go_sem, *]; omega)) only [go_sem, isE, isO, stpO, notIn, St.bare, Bool.false_and, Bool.true_and, Bool.and_true, Bool.not_true, Bool.not_false, Int.reduceToNat, Nat.reduceBEq, Nat.reduceEqDiff, Nat.reduceAdd, Nat.reduceMul, Nat.reduceLeDiff, Nat.reduceLT, Nat.reduceSub, ↓reduceIte, reduceCtorEq]; (repeat (refine And.intro (by first | assumption | omega | decide | (simp; done) | (simp; omega)) ?_)); refine hKq _ ?_; clear hKq Kq)
  refine evR_nil (hK _ ?_); clear hK K
  simp only [St.norm, thenE, inBlkE, List.filterMap, List.lookup, Option.map, Nat.reduceBEq]
  refine hK2 _ ?_
  refine tr_ret ?_
  (try simp only [thenE, inBlkE])
  simp (maxSteps := 4000000) (disch := first | assumption | omega | (simp only [go_sem, *]; done) | (simp only [go_sem, *]; omega)) only [postA, postO, resV1, fzAll, go_sem, isE, isO, stpO, notIn, St.bare, Bool.false_and, Bool.true_and, Bool.and_true, Bool.not_true, Bool.not_false, Int.reduceToNat, Nat.reduceBEq, Nat.reduceEqDiff, Nat.reduceAdd, Nat.reduceMul, Nat.reduceLeDiff, Nat.reduceLT, Nat.reduceSub, ↓reduceIte, reduceCtorEq]
  all_goals (simp)

theorem c12 (c n : Int) (hn : 0 < n) : CallsA Try.prog 12 [.int .i64 c, .int .i64 n] (.int .i64 (pickW c n)) := by
  refine callsA_of_tr Try.func12 rfl (Nat.le_of_ble_eq_true rfl) ?_
  simp only [Try.results12, envOf, Nat.reduceAdd]
  refine tr_seq fun K1 hK1 => ?_
  refine tr_region [0, 1] rfl rfl fun K hK => ?_
  iterate 1 (refine evR_step fun Kq hKq => ?_; simp (maxSteps := 4000000) (disch := first | assumption | omega | (simp only [go_sem, *]; done) | (simp only [go_sem, *]; omega)) only [go_sem, isE, isO, stpO, notIn, St.bare, Bool.false_and, Bool.true_and, Bool.and_true, Bool.not_true, Bool.not_false, Int.reduceToNat, Nat.reduceBEq, Nat.reduceEqDiff, Nat.reduceAdd, Nat.reduceMul, Nat.reduceLeDiff, Nat.reduceLT, Nat.reduceSub, ↓reduceIte, reduceCtorEq]; (repeat (refine And.intro (by first | assumption | omega | decide | (simp; done) | (simp; omega)) ?_)); refine hKq _ ?_; clear hKq Kq)
  refine evR_nil (hK _ ?_); clear hK K
  simp only [St.norm, thenE, inBlkE, List.filterMap, List.lookup, Option.map, Nat.reduceBEq]
  refine hK1 _ ?_
  refine tr_seq fun K2 hK2 => ?_
  refine tr_seq fun K3 hK3 => ?_
  refine tr_region [0, 1, 6] rfl rfl fun K hK => ?_
  iterate 2 (refine evR_step fun Kq hKq => ?_; simp (maxSteps := 4000000) (disch := first | assumption | omega | (simp only [go_sem, *]; done) | (simp only [go_sem, *]; omega)) only [go_sem, isE, isO, stpO, notIn, St.bare, Bool.false_and, Bool.true_and, Bool.and_true, Bool.not_true, Bool.not_false, Int.reduceToNat, Nat.reduceBEq, Nat.reduceEqDiff, Nat.reduceAdd, Nat.reduceMul, Nat.reduceLeDiff, Nat.reduceLT, Nat.reduceSub, ↓reduceIte, reduceCtorEq]; (repeat (refine And.intro (by first | assumption | omega | decide | (simp; done) | (simp; omega)) ?_)); refine hKq _ ?_; clear hKq Kq)
  refine evR_nil (hK _ ?_); clear hK K
  simp only [St.norm, thenE, inBlkE, List.filterMap, List.lookup, Option.map, Nat.reduceBEq]
  refine hK3 _ ?_
  refine tr_cond rfl (fun ht1 => ?_) (fun ht1 => ?_)
  · (try simp only [decide_eq_true_eq, decide_eq_false_iff_not, Bool.not_eq_true', Bool.not_eq_false', Bool.and_eq_true, Bool.or_eq_true, Bool.and_eq_false_iff, Bool.or_eq_false_iff, beq_true, beq_false] at ht1)
    refine tr_region [0, 1] rfl rfl fun K hK => ?_
    iterate 4 (refine evR_step fun Kq hKq => ?_; simp (maxSteps := 4000000) (disch := first | assumption | omega | (simp only [go_sem, *]; done) | (simp only [go_sem, *]; omega)) only [go_sem, isE, isO, stpO, notIn, St.bare, Bool.false_and, Bool.true_and, Bool.and_true, Bool.not_true, Bool.not_false, Int.reduceToNat, Nat.reduceBEq, Nat.reduceEqDiff, Nat.reduceAdd, Nat.reduceMul, Nat.reduceLeDiff, Nat.reduceLT, Nat.reduceSub, ↓reduceIte, reduceCtorEq]; (repeat (refine And.intro (by first | assumption | omega | decide | (simp; done) | (simp; omega)) ?_)); refine hKq _ ?_; clear hKq Kq)
    refine evR_nil (hK _ ?_); clear hK K
    simp only [St.norm, thenE, inBlkE, List.filterMap, List.lookup, Option.map, Nat.reduceBEq]
    refine hK2 _ ?_
    refine tr_seq fun K4 hK4 => ?_
    refine tr_region [4] rfl rfl fun K hK => ?_
    iterate 4 (refine evR_step fun Kq hKq => ?_; simp (maxSteps := 4000000) (disch := first | assumption | omega | (simp only [go_sem, *]; done) | (simp only [go_sem, *]; omega)) only [go_sem, isE, isO, stpO, notIn, St.bare, Bool.false_and, Bool.true_and, Bool.and_true, Bool.not_true, Bool.not_false, Int.reduceToNat, Nat.reduceBEq, Nat.reduceEqDiff, Nat.reduceAdd, Nat.reduceMul, Nat.reduceLeDiff, Nat.reduceLT, Nat.reduceSub, ↓reduceIte, reduceCtorEq]; (repeat (refine And.intro (by first | assumption | omega | decide | (simp; done) | (simp; omega)) ?_)); refine hKq _ ?_; clear hKq Kq)
    refine evR_nil (hK _ ?_); clear hK K
    simp only [St.norm, thenE, inBlkE, List.filterMap, List.lookup, Option.map, Nat.reduceBEq]
    refine hK4 _ ?_
    refine tr_ret ?_
    (try simp only [thenE, inBlkE])
    simp (maxSteps := 4000000) (disch := first | assumption | omega | (simp only [go_sem, *]; done) | (simp only [go_sem, *]; omega)) only [postA, postO, resV1, fzAll, go_sem, isE, isO, stpO, notIn, St.bare, Bool.false_and, Bool.true_and, Bool.and_true, Bool.not_true, Bool.not_false, Int.reduceToNat, Nat.reduceBEq, Nat.reduceEqDiff, Nat.reduceAdd, Nat.reduceMul, Nat.reduceLeDiff, Nat.reduceLT, Nat.reduceSub, ↓reduceIte, reduceCtorEq]
    all_goals (simp [pickW, *])
  · (try simp only [decide_eq_true_eq, decide_eq_false_iff_not, Bool.not_eq_true', Bool.not_eq_false', Bool.and_eq_true, Bool.or_eq_true, Bool.and_eq_false_iff, Bool.or_eq_false_iff, beq_true, beq_false] at ht1)
    refine tr_skip ?_
    (try simp only [thenE, inBlkE])
    refine hK2 _ ?_
    refine tr_seq fun K5 hK5 => ?_
    refine tr_region [4] rfl rfl fun K hK => ?_
    iterate 4 (refine evR_step fun Kq hKq => ?_; simp (maxSteps := 4000000) (disch := first | assumption | omega | (simp only [go_sem, *]; done) | (simp only [go_sem, *]; omega)) only [go_sem, isE, isO, stpO, notIn, St.bare, Bool.false_and, Bool.true_and, Bool.and_true, Bool.not_true, Bool.not_false, Int.reduceToNat, Nat.reduceBEq, Nat.reduceEqDiff, Nat.reduceAdd, Nat.reduceMul, Nat.reduceLeDiff, Nat.reduceLT, Nat.reduceSub, ↓reduceIte, reduceCtorEq]; (repeat (refine And.intro (by first | assumption | omega | decide | (simp; done) | (simp; omega)) ?_)); refine hKq _ ?_; clear hKq Kq)
    refine evR_nil (hK _ ?_); clear hK K
    simp only [St.norm, thenE, inBlkE, List.filterMap, List.lookup, Option.map, Nat.reduceBEq]
    refine hK5 _ ?_
    refine tr_ret ?_
    (try simp only [thenE, inBlkE])
    simp (maxSteps := 4000000) (disch := first | assumption | omega | (simp only [go_sem, *]; done) | (simp only [go_sem, *]; omega)) only [postA, postO, resV1, fzAll, go_sem, isE, isO, stpO, notIn, St.bare, Bool.false_and, Bool.true_and, Bool.and_true, Bool.not_true, Bool.not_false, Int.reduceToNat, Nat.reduceBEq, Nat.reduceEqDiff, Nat.reduceAdd, Nat.reduceMul, Nat.reduceLeDiff, Nat.reduceLT, Nat.reduceSub, ↓reduceIte, reduceCtorEq]
    all_goals (simp [pickW, *])

theorem c40 (c n : Int) (hn : 0 < n) : CallsA Try.prog 40 [.int .i64 c, .int .i64 n] (.int .i64 (pickW c n)) := by
  refine callsA_of_tr Try.func40 rfl (Nat.le_of_ble_eq_true rfl) ?_
  simp only [Try.results40, envOf, Nat.reduceAdd]
  refine tr_seq fun K1 hK1 => ?_
  refine tr_region [0, 1] rfl rfl fun K hK => ?_
  iterate 1 (refine evR_step fun Kq hKq => ?_; simp (maxSteps := 4000000) (disch := first | assumption | omega | (simp only [go_sem, *]; done) | (simp only [go_sem, *]; omega)) only [go_sem, isE, isO, stpO, notIn, St.bare, Bool.false_and, Bool.true_and, Bool.and_true, Bool.not_true, Bool.not_false, Int.reduceToNat, Nat.reduceBEq, Nat.reduceEqDiff, Nat.reduceAdd, Nat.reduceMul, Nat.reduceLeDiff, Nat.reduceLT, Nat.reduceSub, ↓reduceIte, reduceCtorEq]; (repeat (refine And.intro (by first | assumption | omega | decide | (simp; done) | (simp; omega)) ?_)); refine hKq _ ?_; clear hKq Kq)
  refine evR_nil (hK _ ?_); clear hK K
  simp only [St.norm, thenE, inBlkE, List.filterMap, List.lookup, Option.map, Nat.reduceBEq]
  refine hK1 _ ?_
  refine tr_seq fun K2 hK2 => ?_
  refine tr_seq fun K3 hK3 => ?_
  refine tr_region [0, 1, 6] rfl rfl fun K hK => ?_
  iterate 2 (refine evR_step fun Kq hKq => ?_; simp (maxSteps := 4000000) (disch := first | assumption | omega | (simp only [go_sem, *]; done) | (simp only [go_sem, *]; omega)) only [go_sem, isE, isO, stpO, notIn, St.bare, Bool.false_and, Bool.true_and, Bool.and_true, Bool.not_true, Bool.not_false, Int.reduceToNat, Nat.reduceBEq, Nat.reduceEqDiff, Nat.reduceAdd, Nat.reduceMul, Nat.reduceLeDiff, Nat.reduceLT, Nat.reduceSub, ↓reduceIte, reduceCtorEq]; (repeat (refine And.intro (by first | assumption | omega | decide | (simp; done) | (simp; omega)) ?_)); refine hKq _ ?_; clear hKq Kq)
  refine evR_nil (hK _ ?_); clear hK K
  simp only [St.norm, thenE, inBlkE, List.filterMap, List.lookup, Option.map, Nat.reduceBEq]
  refine hK3 _ ?_
  refine tr_cond rfl (fun ht1 => ?_) (fun ht1 => ?_)
  · (try simp only [decide_eq_true_eq, decide_eq_false_iff_not, Bool.not_eq_true', Bool.not_eq_false', Bool.and_eq_true, Bool.or_eq_true, Bool.and_eq_false_iff, Bool.or_eq_false_iff, beq_true, beq_false] at ht1)
    refine tr_region [0, 1] rfl rfl fun K hK => ?_
    iterate 4 (refine evR_step fun Kq hKq => ?_; simp (maxSteps := 4000000) (disch := first | assumption | omega | (simp only [go_sem, *]; done) | (simp only [go_sem, *]; omega)) only [go_sem, isE, isO, stpO, notIn, St.bare, Bool.false_and, Bool.true_and, Bool.and_true, Bool.not_true, Bool.not_false, Int.reduceToNat, Nat.reduceBEq, Nat.reduceEqDiff, Nat.reduceAdd, Nat.reduceMul, Nat.reduceLeDiff, Nat.reduceLT, Nat.reduceSub, ↓reduceIte, reduceCtorEq]; (repeat (refine And.intro (by first | assumption | omega | decide | (simp; done) | (simp; omega)) ?_)); refine hKq _ ?_; clear hKq Kq)
    refine evR_nil (hK _ ?_); clear hK K
    simp only [St.norm, thenE, inBlkE, List.filterMap, List.lookup, Option.map, Nat.reduceBEq]
    refine hK2 _ ?_
    refine tr_seq fun K4 hK4 => ?_
    refine tr_region [4] rfl rfl fun K hK => ?_
    iterate 4 (refine evR_step fun Kq hKq => ?_; simp (maxSteps := 4000000) (disch := first | assumption | omega | (simp only [go_sem, *]; done) | (simp only [go_sem, *]; omega)) only [go_sem, isE, isO, stpO, notIn, St.bare, Bool.false_and, Bool.true_and, Bool.and_true, Bool.not_true, Bool.not_false, Int.reduceToNat, Nat.reduceBEq, Nat.reduceEqDiff, Nat.reduceAdd, Nat.reduceMul, Nat.reduceLeDiff, Nat.reduceLT, Nat.reduceSub, ↓reduceIte, reduceCtorEq]; (repeat (refine And.intro (by first | assumption | omega | decide | (simp; done) | (simp; omega)) ?_)); refine hKq _ ?_; clear hKq Kq)
    refine evR_nil (hK _ ?_); clear hK K
    simp only [St.norm, thenE, inBlkE, List.filterMap, List.lookup, Option.map, Nat.reduceBEq]
    refine hK4 _ ?_
    refine tr_ret ?_
    (try simp only [thenE, inBlkE])
    simp (maxSteps := 4000000) (disch := first | assumption | omega | (simp only [go_sem, *]; done) | (simp only [go_sem, *]; omega)) only [postA, postO, resV1, fzAll, go_sem, isE, isO, stpO, notIn, St.bare, Bool.false_and, Bool.true_and, Bool.and_true, Bool.not_true, Bool.not_false, Int.reduceToNat, Nat.reduceBEq, Nat.reduceEqDiff, Nat.reduceAdd, Nat.reduceMul, Nat.reduceLeDiff, Nat.reduceLT, Nat.reduceSub, ↓reduceIte, reduceCtorEq]
    all_goals (simp [pickW, *])
  · (try simp only [decide_eq_true_eq, decide_eq_false_iff_not, Bool.not_eq_true', Bool.not_eq_false', Bool.and_eq_true, Bool.or_eq_true, Bool.and_eq_false_iff, Bool.or_eq_false_iff, beq_true, beq_false] at ht1)
    refine tr_skip ?_
    (try simp only [thenE, inBlkE])
    refine hK2 _ ?_
    refine tr_seq fun K5 hK5 => ?_
    refine tr_region [4] rfl rfl fun K hK => ?_
    iterate 4 (refine evR_step fun Kq hKq => ?_; simp (maxSteps := 4000000) (disch := first | assumption | omega | (simp only [go_sem, *]; done) | (simp only [go_sem, *]; omega)) only [go_sem, isE, isO, stpO, notIn, St.bare, Bool.false_and, Bool.true_and, Bool.and_true, Bool.not_true, Bool.not_false, Int.reduceToNat, Nat.reduceBEq, Nat.reduceEqDiff, Nat.reduceAdd, Nat.reduceMul, Nat.reduceLeDiff, Nat.reduceLT, Nat.reduceSub, ↓reduceIte, reduceCtorEq]; (repeat (refine And.intro (by first | assumption | omega | decide | (simp; done) | (simp; omega)) ?_)); refine hKq _ ?_; clear hKq Kq)
    refine evR_nil (hK _ ?_); clear hK K
    simp only [St.norm, thenE, inBlkE, List.filterMap, List.lookup, Option.map, Nat.reduceBEq]
    refine hK5 _ ?_
    refine tr_ret ?_
    (try simp only [thenE, inBlkE])
    simp (maxSteps := 4000000) (disch := first | assumption | omega | (simp only [go_sem, *]; done) | (simp only [go_sem, *]; omega)) only [postA, postO, resV1, fzAll, go_sem, isE, isO, stpO, notIn, St.bare, Bool.false_and, Bool.true_and, Bool.and_true, Bool.not_true, Bool.not_false, Int.reduceToNat, Nat.reduceBEq, Nat.reduceEqDiff, Nat.reduceAdd, Nat.reduceMul, Nat.reduceLeDiff, Nat.reduceLT, Nat.reduceSub, ↓reduceIte, reduceCtorEq]
    all_goals (simp [pickW, *])

theorem c58 (xs : List Int) (f : FuncId) (caps : List V) (p : Int → Bool) (hf : okF Try.prog f = true) (hcl : V.clL caps = true) (hp : ∀ x ∈ xs, CallsA Try.prog f (V.int .i64 x :: caps) (.bool (p x))) (hm : xs.length ≤ maxLen) : CallsA Try.prog 58 [.sl 1 (encI xs), .fn f caps] (.int .i64 (idxOf p xs)) := by
  unfold maxLen at hm
  refine callsA_of_tr Try.func58 rfl (Nat.le_of_ble_eq_true rfl) ?_
  simp only [Try.results58, envOf, Nat.reduceAdd]
  refine tr_seq fun K1 hK1 => ?_
  refine tr_region [0, 1] rfl rfl fun K hK => ?_
  iterate 1 (refine evR_step fun Kq hKq => ?_; simp (maxSteps := 4000000) (disch := first | assumption | omega | (simp only [go_sem, *]; done) | (simp only [go_sem, *]; omega)) only [go_sem, isE, isO, stpO, notIn, St.bare, Bool.false_and, Bool.true_and, Bool.and_true, Bool.not_true, Bool.not_false, Int.reduceToNat, Nat.reduceBEq, Nat.reduceEqDiff, Nat.reduceAdd, Nat.reduceMul, Nat.reduceLeDiff, Nat.reduceLT, Nat.reduceSub, ↓reduceIte, reduceCtorEq, hcl]; (repeat (refine And.intro (by first | assumption | omega | decide | (simp; done) | (simp; omega)) ?_)); refine hKq _ ?_; clear hKq Kq)
  refine evR_nil (hK _ ?_); clear hK K
  simp only [St.norm, thenE, inBlkE, List.filterMap, List.lookup, Option.map, Nat.reduceBEq]
  refine hK1 _ ?_
  refine tr_seq fun K2 hK2 => ?_
  refine tr_seq fun K3 hK3 => ?_
  refine tr_region [0, 1, 7, 8] rfl rfl fun K hK => ?_
  iterate 3 (refine evR_step fun Kq hKq => ?_; simp (maxSteps := 4000000) (disch := first | assumption | omega | (simp only [go_sem, *]; done) | (simp only [go_sem, *]; omega)) only [go_sem, isE, isO, stpO, notIn, St.bare, Bool.false_and, Bool.true_and, Bool.and_true, Bool.not_true, Bool.not_false, Int.reduceToNat, Nat.reduceBEq, Nat.reduceEqDiff, Nat.reduceAdd, Nat.reduceMul, Nat.reduceLeDiff, Nat.reduceLT, Nat.reduceSub, ↓reduceIte, reduceCtorEq, hcl]; (repeat (refine And.intro (by first | assumption | omega | decide | (simp; done) | (simp; omega)) ?_)); refine hKq _ ?_; clear hKq Kq)
  refine evR_nil (hK _ ?_); clear hK K
  simp only [St.norm, thenE, inBlkE, List.filterMap, List.lookup, Option.map, Nat.reduceBEq]
  refine hK3 _ ?_
  refine tr_block ?_
  -- loop 1: live [0, 1, 7, 8]
  refine tr_loopW (fun m σ => ∃ i, i + m = xs.length ∧ (∀ j, j < i → p (xs.getD j 0) = false) ∧ σ = ⟨[(0, .sl 1 (encI xs)), (1, .fn f caps), (7, .int .i64 xs.length), (8, .int .i64 (i : Nat))], [], 0⟩) (xs.length) ?_ ?_
  · exact ⟨_, Wk.refl _, 0, by omega, (by intro j hj; omega), rfl⟩
  · rintro m σ ⟨i, hi, hpi, rfl⟩ KL1 hKL1
    refine tr_seq fun K4 hK4 => ?_
    refine tr_region [0, 1, 7, 8, 9] rfl rfl fun K hK => ?_
    iterate 1 (refine evR_step fun Kq hKq => ?_; simp (maxSteps := 4000000) (disch := first | assumption | omega | (simp only [go_sem, *]; done) | (simp only [go_sem, *]; omega)) only [go_sem, isE, isO, stpO, notIn, St.bare, Bool.false_and, Bool.true_and, Bool.and_true, Bool.not_true, Bool.not_false, Int.reduceToNat, Nat.reduceBEq, Nat.reduceEqDiff, Nat.reduceAdd, Nat.reduceMul, Nat.reduceLeDiff, Nat.reduceLT, Nat.reduceSub, ↓reduceIte, reduceCtorEq, hcl]; (repeat (refine And.intro (by first | assumption | omega | decide | (simp; done) | (simp; omega)) ?_)); refine hKq _ ?_; clear hKq Kq)
    refine evR_nil (hK _ ?_); clear hK K
    simp only [St.norm, thenE, inBlkE, List.filterMap, List.lookup, Option.map, Nat.reduceBEq]
    refine hK4 _ ?_
    refine tr_seq fun K5 hK5 => ?_
    refine tr_cond rfl (fun ht1 => ?_) (fun ht1 => ?_)
    · (try simp only [decide_eq_true_eq, decide_eq_false_iff_not, Bool.not_eq_true', Bool.not_eq_false', Bool.and_eq_true, Bool.or_eq_true, Bool.and_eq_false_iff, Bool.or_eq_false_iff, beq_true, beq_false] at ht1)
      have hil : i < xs.length := by omega
      refine tr_skip ?_
      (try simp only [thenE, inBlkE])
      refine hK5 _ ?_
      refine tr_seq fun K6 hK6 => ?_
      refine tr_block ?_
      refine tr_seq fun K7 hK7 => ?_
      refine tr_region [0, 1, 5, 7, 8] rfl rfl fun K hK => ?_
      iterate 2 (refine evR_step fun Kq hKq => ?_; simp (maxSteps := 4000000) (disch := first | assumption | omega | (simp only [go_sem, *]; done) | (simp only [go_sem, *]; omega)) only [go_sem, isE, isO, stpO, notIn, St.bare, Bool.false_and, Bool.true_and, Bool.and_true, Bool.not_true, Bool.not_false, Int.reduceToNat, Nat.reduceBEq, Nat.reduceEqDiff, Nat.reduceAdd, Nat.reduceMul, Nat.reduceLeDiff, Nat.reduceLT, Nat.reduceSub, ↓reduceIte, reduceCtorEq, hcl, hil]; (repeat (refine And.intro (by first | assumption | omega | decide | (simp; done) | (simp; omega)) ?_)); refine hKq _ ?_; clear hKq Kq)
      refine evR_nil (hK _ ?_); clear hK K
      simp only [St.norm, thenE, inBlkE, List.filterMap, List.lookup, Option.map, Nat.reduceBEq]
      refine hK7 _ ?_
      refine tr_seq fun K8 hK8 => ?_
      refine tr_region [0, 1, 5, 7, 8, 16] rfl rfl fun K hK => ?_
      iterate 5 (refine evR_step fun Kq hKq => ?_; simp (maxSteps := 4000000) (disch := first | assumption | omega | (simp only [go_sem, *]; done) | (simp only [go_sem, *]; omega)) only [go_sem, isE, isO, stpO, notIn, St.bare, Bool.false_and, Bool.true_and, Bool.and_true, Bool.not_true, Bool.not_false, Int.reduceToNat, Nat.reduceBEq, Nat.reduceEqDiff, Nat.reduceAdd, Nat.reduceMul, Nat.reduceLeDiff, Nat.reduceLT, Nat.reduceSub, ↓reduceIte, reduceCtorEq, hcl, hil]; (repeat (refine And.intro (by first | assumption | omega | decide | (simp; done) | (simp; omega)) ?_)); refine hKq _ ?_; clear hKq Kq)
      refine evR_step fun Kq hKq => ?_
      simp (maxSteps := 4000000) (disch := first | assumption | omega | (simp only [go_sem, *]; done) | (simp only [go_sem, *]; omega)) only [go_sem, isE, isO, stpO, notIn, St.bare, Bool.false_and, Bool.true_and, Bool.and_true, Bool.not_true, Bool.not_false, Int.reduceToNat, Nat.reduceBEq, Nat.reduceEqDiff, Nat.reduceAdd, Nat.reduceMul, Nat.reduceLeDiff, Nat.reduceLT, Nat.reduceSub, ↓reduceIte, reduceCtorEq, hcl, hil]
      (repeat (refine And.intro (by first | assumption | omega | decide | (simp; done) | (simp; omega)) ?_))
      refine ⟨_, (hp _ (getD_mem hil)), ?_⟩
      refine hKq _ ?_; clear hKq Kq
      refine evR_nil (hK _ ?_); clear hK K
      simp only [St.norm, thenE, inBlkE, List.filterMap, List.lookup, Option.map, Nat.reduceBEq]
      refine hK8 _ ?_
      refine tr_cond rfl (fun ht2 => ?_) (fun ht2 => ?_)
      · (try simp only [decide_eq_true_eq, decide_eq_false_iff_not, Bool.not_eq_true', Bool.not_eq_false', Bool.and_eq_true, Bool.or_eq_true, Bool.and_eq_false_iff, Bool.or_eq_false_iff, beq_true, beq_false] at ht2)
        refine tr_seq fun K9 hK9 => ?_
        refine tr_region [4] rfl rfl fun K hK => ?_
        iterate 2 (refine evR_step fun Kq hKq => ?_; simp (maxSteps := 4000000) (disch := first | assumption | omega | (simp only [go_sem, *]; done) | (simp only [go_sem, *]; omega)) only [go_sem, isE, isO, stpO, notIn, St.bare, Bool.false_and, Bool.true_and, Bool.and_true, Bool.not_true, Bool.not_false, Int.reduceToNat, Nat.reduceBEq, Nat.reduceEqDiff, Nat.reduceAdd, Nat.reduceMul, Nat.reduceLeDiff, Nat.reduceLT, Nat.reduceSub, ↓reduceIte, reduceCtorEq, hcl, hil]; (repeat (refine And.intro (by first | assumption | omega | decide | (simp; done) | (simp; omega)) ?_)); refine hKq _ ?_; clear hKq Kq)
        refine evR_nil (hK _ ?_); clear hK K
        simp only [St.norm, thenE, inBlkE, List.filterMap, List.lookup, Option.map, Nat.reduceBEq]
        refine hK9 _ ?_
        refine tr_ret ?_
        (try simp only [thenE, inBlkE])
        simp (maxSteps := 4000000) (disch := first | assumption | omega | (simp only [go_sem, *]; done) | (simp only [go_sem, *]; omega)) only [postA, postO, resV1, fzAll, go_sem, isE, isO, stpO, notIn, St.bare, Bool.false_and, Bool.true_and, Bool.and_true, Bool.not_true, Bool.not_false, Int.reduceToNat, Nat.reduceBEq, Nat.reduceEqDiff, Nat.reduceAdd, Nat.reduceMul, Nat.reduceLeDiff, Nat.reduceLT, Nat.reduceSub, ↓reduceIte, reduceCtorEq, hcl, hil]
        all_goals (first | (simp [idxOf_at p 0 xs i (by omega) hpi (by assumption)]; done) | (simp [idxOf_none p xs (all_false 0 hpi (by omega))]; done))
      · (try simp only [decide_eq_true_eq, decide_eq_false_iff_not, Bool.not_eq_true', Bool.not_eq_false', Bool.and_eq_true, Bool.or_eq_true, Bool.and_eq_false_iff, Bool.or_eq_false_iff, beq_true, beq_false] at ht2)
        refine tr_skip ?_
        (try simp only [thenE, inBlkE])
        refine hK6 _ ?_
        refine tr_region [0, 1, 7, 8] rfl rfl fun K hK => ?_
        iterate 2 (refine evR_step fun Kq hKq => ?_; simp (maxSteps := 4000000) (disch := first | assumption | omega | (simp only [go_sem, *]; done) | (simp only [go_sem, *]; omega)) only [go_sem, isE, isO, stpO, notIn, St.bare, Bool.false_and, Bool.true_and, Bool.and_true, Bool.not_true, Bool.not_false, Int.reduceToNat, Nat.reduceBEq, Nat.reduceEqDiff, Nat.reduceAdd, Nat.reduceMul, Nat.reduceLeDiff, Nat.reduceLT, Nat.reduceSub, ↓reduceIte, reduceCtorEq, hcl, hil]; (repeat (refine And.intro (by first | assumption | omega | decide | (simp; done) | (simp; omega)) ?_)); refine hKq _ ?_; clear hKq Kq)
        refine evR_nil (hK _ ?_); clear hK K
        simp only [St.norm, thenE, inBlkE, List.filterMap, List.lookup, Option.map, Nat.reduceBEq]
        refine hKL1 _ ?_
        exact ⟨m - 1, _, by omega, Wk.refl _, i + 1, by omega, step_false hpi (by assumption), by rw [w64 (by omega)]; rfl⟩
    · (try simp only [decide_eq_true_eq, decide_eq_false_iff_not, Bool.not_eq_true', Bool.not_eq_false', Bool.and_eq_true, Bool.or_eq_true, Bool.and_eq_false_iff, Bool.or_eq_false_iff, beq_true, beq_false] at ht1)
      have hil : i = xs.length := by omega
      refine tr_exit ?_
      simp only [thenE, inBlkE, Nat.reduceEqDiff, ↓reduceIte]
      refine hK2 _ ?_
      refine tr_seq fun K10 hK10 => ?_
      refine tr_region [4] rfl rfl fun K hK => ?_
      iterate 1 (refine evR_step fun Kq hKq => ?_; simp (maxSteps := 4000000) (disch := first | assumption | omega | (simp only [go_sem, *]; done) | (simp only [go_sem, *]; omega)) only [go_sem, isE, isO, stpO, notIn, St.bare, Bool.false_and, Bool.true_and, Bool.and_true, Bool.not_true, Bool.not_false, Int.reduceToNat, Nat.reduceBEq, Nat.reduceEqDiff, Nat.reduceAdd, Nat.reduceMul, Nat.reduceLeDiff, Nat.reduceLT, Nat.reduceSub, ↓reduceIte, reduceCtorEq, hcl]; (repeat (refine And.intro (by first | assumption | omega | decide | (simp; done) | (simp; omega)) ?_)); refine hKq _ ?_; clear hKq Kq)
      refine evR_nil (hK _ ?_); clear hK K
      simp only [St.norm, thenE, inBlkE, List.filterMap, List.lookup, Option.map, Nat.reduceBEq]
      refine hK10 _ ?_
      refine tr_ret ?_
      (try simp only [thenE, inBlkE])
      simp (maxSteps := 4000000) (disch := first | assumption | omega | (simp only [go_sem, *]; done) | (simp only [go_sem, *]; omega)) only [postA, postO, resV1, fzAll, go_sem, isE, isO, stpO, notIn, St.bare, Bool.false_and, Bool.true_and, Bool.and_true, Bool.not_true, Bool.not_false, Int.reduceToNat, Nat.reduceBEq, Nat.reduceEqDiff, Nat.reduceAdd, Nat.reduceMul, Nat.reduceLeDiff, Nat.reduceLT, Nat.reduceSub, ↓reduceIte, reduceCtorEq, hcl]
      all_goals (first | (simp [idxOf_at p 0 xs i (by omega) hpi (by assumption)]; done) | (simp [idxOf_none p xs (all_false 0 hpi (by omega))]; done))

theorem c41 (xs : List Int) (f : FuncId) (caps : List V) (p : Int → Bool) (hf : okF Try.prog f = true) (hcl : V.clL caps = true) (hp : ∀ x ∈ xs, CallsA Try.prog f (V.int .i64 x :: caps) (.bool (p x))) (hm : xs.length ≤ maxLen) : CallsA Try.prog 41 [.sl 1 (encI xs), .fn f caps] (.bool (xs.any p)) := by
  refine callsA_of_tr Try.func41 rfl (Nat.le_of_ble_eq_true rfl) ?_
  simp only [Try.results41, envOf, Nat.reduceAdd]
  refine tr_seq fun K1 hK1 => ?_
  refine tr_region [0, 1] rfl rfl fun K hK => ?_
  iterate 1 (refine evR_step fun Kq hKq => ?_; simp (maxSteps := 4000000) (disch := first | assumption | omega | (simp only [go_sem, *]; done) | (simp only [go_sem, *]; omega)) only [go_sem, isE, isO, stpO, notIn, St.bare, Bool.false_and, Bool.true_and, Bool.and_true, Bool.not_true, Bool.not_false, Int.reduceToNat, Nat.reduceBEq, Nat.reduceEqDiff, Nat.reduceAdd, Nat.reduceMul, Nat.reduceLeDiff, Nat.reduceLT, Nat.reduceSub, ↓reduceIte, reduceCtorEq, hcl]; (repeat (refine And.intro (by first | assumption | omega | decide | (simp; done) | (simp; omega)) ?_)); refine hKq _ ?_; clear hKq Kq)
  refine evR_nil (hK _ ?_); clear hK K
  simp only [St.norm, thenE, inBlkE, List.filterMap, List.lookup, Option.map, Nat.reduceBEq]
  refine hK1 _ ?_
  refine tr_seq fun K2 hK2 => ?_
  refine tr_region [4] rfl rfl fun K hK => ?_
  iterate 2 (refine evR_step fun Kq hKq => ?_; simp (maxSteps := 4000000) (disch := first | assumption | omega | (simp only [go_sem, *]; done) | (simp only [go_sem, *]; omega)) only [go_sem, isE, isO, stpO, notIn, St.bare, Bool.false_and, Bool.true_and, Bool.and_true, Bool.not_true, Bool.not_false, Int.reduceToNat, Nat.reduceBEq, Nat.reduceEqDiff, Nat.reduceAdd, Nat.reduceMul, Nat.reduceLeDiff, Nat.reduceLT, Nat.reduceSub, ↓reduceIte, reduceCtorEq, hcl]; (repeat (refine And.intro (by first | assumption | omega | decide | (simp; done) | (simp; omega)) ?_)); refine hKq _ ?_; clear hKq Kq)
  refine evR_step fun Kq hKq => ?_
  simp (maxSteps := 4000000) (disch := first | assumption | omega | (simp only [go_sem, *]; done) | (simp only [go_sem, *]; omega)) only [go_sem, isE, isO, stpO, notIn, St.bare, Bool.false_and, Bool.true_and, Bool.and_true, Bool.not_true, Bool.not_false, Int.reduceToNat, Nat.reduceBEq, Nat.reduceEqDiff, Nat.reduceAdd, Nat.reduceMul, Nat.reduceLeDiff, Nat.reduceLT, Nat.reduceSub, ↓reduceIte, reduceCtorEq, hcl]
  (repeat (refine And.intro (by first | assumption | omega | decide | (simp; done) | (simp; omega)) ?_))
  refine ⟨_, (c58 _ _ _ p hf hcl hp hm), ?_⟩
  refine hKq _ ?_; clear hKq Kq
  iterate 2 (refine evR_step fun Kq hKq => ?_; simp (maxSteps := 4000000) (disch := first | assumption | omega | (simp only [go_sem, *]; done) | (simp only [go_sem, *]; omega)) only [go_sem, isE, isO, stpO, notIn, St.bare, Bool.false_and, Bool.true_and, Bool.and_true, Bool.not_true, Bool.not_false, Int.reduceToNat, Nat.reduceBEq, Nat.reduceEqDiff, Nat.reduceAdd, Nat.reduceMul, Nat.reduceLeDiff, Nat.reduceLT, Nat.reduceSub, ↓reduceIte, reduceCtorEq, hcl]; (repeat (refine And.intro (by first | assumption | omega | decide | (simp; done) | (simp; omega)) ?_)); refine hKq _ ?_; clear hKq Kq)
  refine evR_nil (hK _ ?_); clear hK K
  simp only [St.norm, thenE, inBlkE, List.filterMap, List.lookup, Option.map, Nat.reduceBEq]
  refine hK2 _ ?_
  refine tr_ret ?_
  (try simp only [thenE, inBlkE])
  simp (maxSteps := 4000000) (disch := first | assumption | omega | (simp only [go_sem, *]; done) | (simp only [go_sem, *]; omega)) only [postA, postO, resV1, fzAll, go_sem, isE, isO, stpO, notIn, St.bare, Bool.false_and, Bool.true_and, Bool.and_true, Bool.not_true, Bool.not_false, Int.reduceToNat, Nat.reduceBEq, Nat.reduceEqDiff, Nat.reduceAdd, Nat.reduceMul, Nat.reduceLeDiff, Nat.reduceLT, Nat.reduceSub, ↓reduceIte, reduceCtorEq, hcl]
  all_goals (simp [idxOf_ge])

theorem c13 (a : List Int) (ha : a.length = 16) : CallsA Try.prog 13 [.agg (cellsI a)] (.bool (validA a)) := by
  refine callsA_of_tr Try.func13 rfl (Nat.le_of_ble_eq_true rfl) ?_
  simp only [Try.results13, envOf, Nat.reduceAdd]
  refine tr_seq fun K1 hK1 => ?_
  refine tr_region [1] rfl rfl fun K hK => ?_
  iterate 2 (refine evR_step fun Kq hKq => ?_; simp (maxSteps := 4000000) (disch := first | assumption | omega | (simp only [go_sem, *]; done) | (simp only [go_sem, *]; omega)) only [go_sem, isE, isO, stpO, notIn, St.bare, Bool.false_and, Bool.true_and, Bool.and_true, Bool.not_true, Bool.not_false, Int.reduceToNat, Nat.reduceBEq, Nat.reduceEqDiff, Nat.reduceAdd, Nat.reduceMul, Nat.reduceLeDiff, Nat.reduceLT, Nat.reduceSub, ↓reduceIte, reduceCtorEq, ha]; (repeat (refine And.intro (by first | assumption | omega | decide | (simp; done) | (simp; omega)) ?_)); refine hKq _ ?_; clear hKq Kq)
  refine evR_nil (hK _ ?_); clear hK K
  simp only [St.norm, thenE, inBlkE, List.filterMap, List.lookup, Option.map, Nat.reduceBEq]
  refine hK1 _ ?_
  refine tr_seq fun K2 hK2 => ?_
  refine tr_region [2] rfl rfl fun K hK => ?_
  iterate 1 (refine evR_step fun Kq hKq => ?_; simp (maxSteps := 4000000) (disch := first | assumption | omega | (simp only [go_sem, *]; done) | (simp only [go_sem, *]; omega)) only [go_sem, isE, isO, stpO, notIn, St.bare, Bool.false_and, Bool.true_and, Bool.and_true, Bool.not_true, Bool.not_false, Int.reduceToNat, Nat.reduceBEq, Nat.reduceEqDiff, Nat.reduceAdd, Nat.reduceMul, Nat.reduceLeDiff, Nat.reduceLT, Nat.reduceSub, ↓reduceIte, reduceCtorEq, ha]; (repeat (refine And.intro (by first | assumption | omega | decide | (simp; done) | (simp; omega)) ?_)); refine hKq _ ?_; clear hKq Kq)
  refine evR_step fun Kq hKq => ?_
  simp (maxSteps := 4000000) (disch := first | assumption | omega | (simp only [go_sem, *]; done) | (simp only [go_sem, *]; omega)) only [go_sem, isE, isO, stpO, notIn, St.bare, Bool.false_and, Bool.true_and, Bool.and_true, Bool.not_true, Bool.not_false, Int.reduceToNat, Nat.reduceBEq, Nat.reduceEqDiff, Nat.reduceAdd, Nat.reduceMul, Nat.reduceLeDiff, Nat.reduceLT, Nat.reduceSub, ↓reduceIte, reduceCtorEq, ha]
  (repeat (refine And.intro (by first | assumption | omega | decide | (simp; done) | (simp; omega)) ?_))
  refine ⟨_, (c41 a 42 [] (fun x => decide (x < 0) || decide (65535 < x)) okF_42 rfl (fun x _ => c42 x) (by simp [maxLen, ha])), ?_⟩
  refine hKq _ ?_; clear hKq Kq
  iterate 2 (refine evR_step fun Kq hKq => ?_; simp (maxSteps := 4000000) (disch := first | assumption | omega | (simp only [go_sem, *]; done) | (simp only [go_sem, *]; omega)) only [go_sem, isE, isO, stpO, notIn, St.bare, Bool.false_and, Bool.true_and, Bool.and_true, Bool.not_true, Bool.not_false, Int.reduceToNat, Nat.reduceBEq, Nat.reduceEqDiff, Nat.reduceAdd, Nat.reduceMul, Nat.reduceLeDiff, Nat.reduceLT, Nat.reduceSub, ↓reduceIte, reduceCtorEq, ha]; (repeat (refine And.intro (by first | assumption | omega | decide | (simp; done) | (simp; omega)) ?_)); refine hKq _ ?_; clear hKq Kq)
  refine evR_nil (hK _ ?_); clear hK K
  simp only [St.norm, thenE, inBlkE, List.filterMap, List.lookup, Option.map, Nat.reduceBEq]
  refine hK2 _ ?_
  refine tr_ret ?_
  (try simp only [thenE, inBlkE])
  simp (maxSteps := 4000000) (disch := first | assumption | omega | (simp only [go_sem, *]; done) | (simp only [go_sem, *]; omega)) only [postA, postO, resV1, fzAll, go_sem, isE, isO, stpO, notIn, St.bare, Bool.false_and, Bool.true_and, Bool.and_true, Bool.not_true, Bool.not_false, Int.reduceToNat, Nat.reduceBEq, Nat.reduceEqDiff, Nat.reduceAdd, Nat.reduceMul, Nat.reduceLeDiff, Nat.reduceLT, Nat.reduceSub, ↓reduceIte, reduceCtorEq, ha]
  all_goals (simp [validA])

theorem c45 (x y : Int) : CallsA Try.prog 45 [.int .i64 x, .int .i64 y] (.int .i64 (bitsV .or .i64 x y)) := by
  refine callsA_of_tr Try.func45 rfl (Nat.le_of_ble_eq_true rfl) ?_
  simp only [Try.results45, envOf, Nat.reduceAdd]
  refine tr_seq fun K1 hK1 => ?_
  refine tr_region [0, 1] rfl rfl fun K hK => ?_
  iterate 1 (refine evR_step fun Kq hKq => ?_; simp (maxSteps := 4000000) (disch := first | assumption | omega | (simp only [go_sem, *]; done) | (simp only [go_sem, *]; omega)) only [go_sem, isE, isO, stpO, notIn, St.bare, Bool.false_and, Bool.true_and, Bool.and_true, Bool.not_true, Bool.not_false, Int.reduceToNat, Nat.reduceBEq, Nat.reduceEqDiff, Nat.reduceAdd, Nat.reduceMul, Nat.reduceLeDiff, Nat.reduceLT, Nat.reduceSub, ↓reduceIte, reduceCtorEq]; (repeat (refine And.intro (by first | assumption | omega | decide | (simp; done) | (simp; omega)) ?_)); refine hKq _ ?_; clear hKq Kq)
  refine evR_nil (hK _ ?_); clear hK K
  simp only [St.norm, thenE, inBlkE, List.filterMap, List.lookup, Option.map, Nat.reduceBEq]
  refine hK1 _ ?_
  refine tr_seq fun K2 hK2 => ?_
  refine tr_region [4] rfl rfl fun K hK => ?_
  iterate 4 (refine evR_step fun Kq hKq => ?_; simp (maxSteps := 4000000) (disch := first | assumption | omega | (simp only [go_sem, *]; done) | (simp only [go_sem, *]; omega)) only [go_sem, isE, isO, stpO, notIn, St.bare, Bool.false_and, Bool.true_and, Bool.and_true, Bool.not_true, Bool.not_false, Int.reduceToNat, Nat.reduceBEq, Nat.reduceEqDiff, Nat.reduceAdd, Nat.reduceMul, Nat.reduceLeDiff, Nat.reduceLT, Nat.reduceSub, ↓reduceIte, reduceCtorEq]; (repeat (refine And.intro (by first | assumption | omega | decide | (simp; done) | (simp; omega)) ?_)); refine hKq _ ?_; clear hKq Kq)
  refine evR_nil (hK _ ?_); clear hK K
  simp only [St.norm, thenE, inBlkE, List.filterMap, List.lookup, Option.map, Nat.reduceBEq]
  refine hK2 _ ?_
  refine tr_ret ?_
  (try simp only [thenE, inBlkE])
  simp (maxSteps := 4000000) (disch := first | assumption | omega | (simp only [go_sem, *]; done) | (simp only [go_sem, *]; omega)) only [postA, postO, resV1, fzAll, go_sem, isE, isO, stpO, notIn, St.bare, Bool.false_and, Bool.true_and, Bool.and_true, Bool.not_true, Bool.not_false, Int.reduceToNat, Nat.reduceBEq, Nat.reduceEqDiff, Nat.reduceAdd, Nat.reduceMul, Nat.reduceLeDiff, Nat.reduceLT, Nat.reduceSub, ↓reduceIte, reduceCtorEq]
  all_goals (simp)

theorem c46 (x y : Int) : CallsA Try.prog 46 [.int .i64 x, .int .i64 y] (.int .i64 (bitsV .and .i64 x y)) := by
  refine callsA_of_tr Try.func46 rfl (Nat.le_of_ble_eq_true rfl) ?_
  simp only [Try.results46, envOf, Nat.reduceAdd]
  refine tr_seq fun K1 hK1 => ?_
  refine tr_region [0, 1] rfl rfl fun K hK => ?_
  iterate 1 (refine evR_step fun Kq hKq => ?_; simp (maxSteps := 4000000) (disch := first | assumption | omega | (simp only [go_sem, *]; done) | (simp only [go_sem, *]; omega)) only [go_sem, isE, isO, stpO, notIn, St.bare, Bool.false_and, Bool.true_and, Bool.and_true, Bool.not_true, Bool.not_false, Int.reduceToNat, Nat.reduceBEq, Nat.reduceEqDiff, Nat.reduceAdd, Nat.reduceMul, Nat.reduceLeDiff, Nat.reduceLT, Nat.reduceSub, ↓reduceIte, reduceCtorEq]; (repeat (refine And.intro (by first | assumption | omega | decide | (simp; done) | (simp; omega)) ?_)); refine hKq _ ?_; clear hKq Kq)
  refine evR_nil (hK _ ?_); clear hK K
  simp only [St.norm, thenE, inBlkE, List.filterMap, List.lookup, Option.map, Nat.reduceBEq]
  refine hK1 _ ?_
  refine tr_seq fun K2 hK2 => ?_
  refine tr_region [4] rfl rfl fun K hK => ?_
  iterate 4 (refine evR_step fun Kq hKq => ?_; simp (maxSteps := 4000000) (disch := first | assumption | omega | (simp only [go_sem, *]; done) | (simp only [go_sem, *]; omega)) only [go_sem, isE, isO, stpO, notIn, St.bare, Bool.false_and, Bool.true_and, Bool.and_true, Bool.not_true, Bool.not_false, Int.reduceToNat, Nat.reduceBEq, Nat.reduceEqDiff, Nat.reduceAdd, Nat.reduceMul, Nat.reduceLeDiff, Nat.reduceLT, Nat.reduceSub, ↓reduceIte, reduceCtorEq]; (repeat (refine And.intro (by first | assumption | omega | decide | (simp; done) | (simp; omega)) ?_)); refine hKq _ ?_; clear hKq Kq)
  refine evR_nil (hK _ ?_); clear hK K
  simp only [St.norm, thenE, inBlkE, List.filterMap, List.lookup, Option.map, Nat.reduceBEq]
  refine hK2 _ ?_
  refine tr_ret ?_
  (try simp only [thenE, inBlkE])
  simp (maxSteps := 4000000) (disch := first | assumption | omega | (simp only [go_sem, *]; done) | (simp only [go_sem, *]; omega)) only [postA, postO, resV1, fzAll, go_sem, isE, isO, stpO, notIn, St.bare, Bool.false_and, Bool.true_and, Bool.and_true, Bool.not_true, Bool.not_false, Int.reduceToNat, Nat.reduceBEq, Nat.reduceEqDiff, Nat.reduceAdd, Nat.reduceMul, Nat.reduceLeDiff, Nat.reduceLT, Nat.reduceSub, ↓reduceIte, reduceCtorEq]
  all_goals (simp)

theorem c47 (x y : Int) : CallsA Try.prog 47 [.int .i64 x, .int .i64 y] (.int .i64 (bitsV .andNot .i64 x y)) := by
  refine callsA_of_tr Try.func47 rfl (Nat.le_of_ble_eq_true rfl) ?_
  simp only [Try.results47, envOf, Nat.reduceAdd]
  refine tr_seq fun K1 hK1 => ?_
  refine tr_region [0, 1] rfl rfl fun K hK => ?_
  iterate 1 (refine evR_step fun Kq hKq => ?_; simp (maxSteps := 4000000) (disch := first | assumption | omega | (simp only [go_sem, *]; done) | (simp only [go_sem, *]; omega)) only [go_sem, isE, isO, stpO, notIn, St.bare, Bool.false_and, Bool.true_and, Bool.and_true, Bool.not_true, Bool.not_false, Int.reduceToNat, Nat.reduceBEq, Nat.reduceEqDiff, Nat.reduceAdd, Nat.reduceMul, Nat.reduceLeDiff, Nat.reduceLT, Nat.reduceSub, ↓reduceIte, reduceCtorEq]; (repeat (refine And.intro (by first | assumption | omega | decide | (simp; done) | (simp; omega)) ?_)); refine hKq _ ?_; clear hKq Kq)
  refine evR_nil (hK _ ?_); clear hK K
  simp only [St.norm, thenE, inBlkE, List.filterMap, List.lookup, Option.map, Nat.reduceBEq]
  refine hK1 _ ?_
  refine tr_seq fun K2 hK2 => ?_
  refine tr_region [4] rfl rfl fun K hK => ?_
  iterate 4 (refine evR_step fun Kq hKq => ?_; simp (maxSteps := 4000000) (disch := first | assumption | omega | (simp only [go_sem, *]; done) | (simp only [go_sem, *]; omega)) only [go_sem, isE, isO, stpO, notIn, St.bare, Bool.false_and, Bool.true_and, Bool.and_true, Bool.not_true, Bool.not_false, Int.reduceToNat, Nat.reduceBEq, Nat.reduceEqDiff, Nat.reduceAdd, Nat.reduceMul, Nat.reduceLeDiff, Nat.reduceLT, Nat.reduceSub, ↓reduceIte, reduceCtorEq]; (repeat (refine And.intro (by first | assumption | omega | decide | (simp; done) | (simp; omega)) ?_)); refine hKq _ ?_; clear hKq Kq)
  refine evR_nil (hK _ ?_); clear hK K
  simp only [St.norm, thenE, inBlkE, List.filterMap, List.lookup, Option.map, Nat.reduceBEq]
  refine hK2 _ ?_
  refine tr_ret ?_
  (try simp only [thenE, inBlkE])
  simp (maxSteps := 4000000) (disch := first | assumption | omega | (simp only [go_sem, *]; done) | (simp only [go_sem, *]; omega)) only [postA, postO, resV1, fzAll, go_sem, isE, isO, stpO, notIn, St.bare, Bool.false_and, Bool.true_and, Bool.and_true, Bool.not_true, Bool.not_false, Int.reduceToNat, Nat.reduceBEq, Nat.reduceEqDiff, Nat.reduceAdd, Nat.reduceMul, Nat.reduceLeDiff, Nat.reduceLT, Nat.reduceSub, ↓reduceIte, reduceCtorEq]
  all_goals (simp)

theorem c44 (a b : List Int) (ha : a.length = 16) (hb : b.length = 16) (f : FuncId) (caps : List V) (p : Int → Int → Int) (hf : okF Try.prog f = true) (hcl : V.clL caps = true) (hp : ∀ x y, CallsA Try.prog f (V.int .i64 x :: V.int .i64 y :: caps) (.int .i64 (p x y))) : CallsA Try.prog 44 [.agg (cellsI a), .agg (cellsI b), .fn f caps] (.agg (cellsI (eachA p a b))) := by
  refine callsA_of_tr Try.func44 rfl (Nat.le_of_ble_eq_true rfl) ?_
  simp only [Try.results44, envOf, Nat.reduceAdd]
  refine tr_seq fun K1 hK1 => ?_
  refine tr_region [2, 3, 4, 6] rfl rfl fun K hK => ?_
  iterate 3 (refine evR_step fun Kq hKq => ?_; simp (maxSteps := 4000000) (disch := first | assumption | omega | (simp only [go_sem, *]; done) | (simp only [go_sem, *]; omega)) only [go_sem, isE, isO, stpO, notIn, St.bare, Bool.false_and, Bool.true_and, Bool.and_true, Bool.not_true, Bool.not_false, Int.reduceToNat, Nat.reduceBEq, Nat.reduceEqDiff, Nat.reduceAdd, Nat.reduceMul, Nat.reduceLeDiff, Nat.reduceLT, Nat.reduceSub, ↓reduceIte, reduceCtorEq, hcl, ha, hb]; (repeat (refine And.intro (by first | assumption | omega | decide | (simp; done) | (simp; omega)) ?_)); refine hKq _ ?_; clear hKq Kq)
  refine evR_nil (hK _ ?_); clear hK K
  simp only [St.norm, thenE, inBlkE, List.filterMap, List.lookup, Option.map, Nat.reduceBEq]
  refine hK1 _ ?_
  refine tr_seq fun K2 hK2 => ?_
  refine tr_region [2, 3, 4, 6, 7] rfl rfl fun K hK => ?_
  iterate 1 (refine evR_step fun Kq hKq => ?_; simp (maxSteps := 4000000) (disch := first | assumption | omega | (simp only [go_sem, *]; done) | (simp only [go_sem, *]; omega)) only [go_sem, isE, isO, stpO, notIn, St.bare, Bool.false_and, Bool.true_and, Bool.and_true, Bool.not_true, Bool.not_false, Int.reduceToNat, Nat.reduceBEq, Nat.reduceEqDiff, Nat.reduceAdd, Nat.reduceMul, Nat.reduceLeDiff, Nat.reduceLT, Nat.reduceSub, ↓reduceIte, reduceCtorEq, hcl, ha, hb]; (repeat (refine And.intro (by first | assumption | omega | decide | (simp; done) | (simp; omega)) ?_)); refine hKq _ ?_; clear hKq Kq)
  refine evR_nil (hK _ ?_); clear hK K
  simp only [St.norm, thenE, inBlkE, List.filterMap, List.lookup, Option.map, Nat.reduceBEq]
  refine hK2 _ ?_
  refine tr_seq fun K3 hK3 => ?_
  refine tr_seq fun K4 hK4 => ?_
  refine tr_region [2, 3, 4, 6, 7, 16] rfl rfl fun K hK => ?_
  iterate 1 (refine evR_step fun Kq hKq => ?_; simp (maxSteps := 4000000) (disch := first | assumption | omega | (simp only [go_sem, *]; done) | (simp only [go_sem, *]; omega)) only [go_sem, isE, isO, stpO, notIn, St.bare, Bool.false_and, Bool.true_and, Bool.and_true, Bool.not_true, Bool.not_false, Int.reduceToNat, Nat.reduceBEq, Nat.reduceEqDiff, Nat.reduceAdd, Nat.reduceMul, Nat.reduceLeDiff, Nat.reduceLT, Nat.reduceSub, ↓reduceIte, reduceCtorEq, hcl, ha, hb]; (repeat (refine And.intro (by first | assumption | omega | decide | (simp; done) | (simp; omega)) ?_)); refine hKq _ ?_; clear hKq Kq)
  refine evR_step fun Kq hKq => ?_
  simp (maxSteps := 4000000) (disch := first | assumption | omega | (simp only [go_sem, *]; done) | (simp only [go_sem, *]; omega)) only [go_sem, isE, isO, stpO, notIn, St.bare, Bool.false_and, Bool.true_and, Bool.and_true, Bool.not_true, Bool.not_false, Int.reduceToNat, Nat.reduceBEq, Nat.reduceEqDiff, Nat.reduceAdd, Nat.reduceMul, Nat.reduceLeDiff, Nat.reduceLT, Nat.reduceSub, ↓reduceIte, reduceCtorEq, hcl, ha, hb]
  (repeat (refine And.intro (by first | assumption | omega | decide | (simp; done) | (simp; omega)) ?_))
  refine ⟨_, (c13 _ (by assumption)), ?_⟩
  refine hKq _ ?_; clear hKq Kq
  iterate 2 (refine evR_step fun Kq hKq => ?_; simp (maxSteps := 4000000) (disch := first | assumption | omega | (simp only [go_sem, *]; done) | (simp only [go_sem, *]; omega)) only [go_sem, isE, isO, stpO, notIn, St.bare, Bool.false_and, Bool.true_and, Bool.and_true, Bool.not_true, Bool.not_false, Int.reduceToNat, Nat.reduceBEq, Nat.reduceEqDiff, Nat.reduceAdd, Nat.reduceMul, Nat.reduceLeDiff, Nat.reduceLT, Nat.reduceSub, ↓reduceIte, reduceCtorEq, hcl, ha, hb]; (repeat (refine And.intro (by first | assumption | omega | decide | (simp; done) | (simp; omega)) ?_)); refine hKq _ ?_; clear hKq Kq)
  iterate 1 (refine evR_step fun Kq hKq => ?_; refine evO_guard (gb := ?_) (v0 := ?_) rfl ?_ ?_ ?_; rotate_left 1; (· intro K3 h3; simp (maxSteps := 4000000) (disch := first | assumption | omega | (simp only [go_sem, *]; done) | (simp only [go_sem, *]; omega)) only [go_sem, isE, isO, stpO, notIn, St.bare, Bool.false_and, Bool.true_and, Bool.and_true, Bool.not_true, Bool.not_false, Int.reduceToNat, Nat.reduceBEq, Nat.reduceEqDiff, Nat.reduceAdd, Nat.reduceMul, Nat.reduceLeDiff, Nat.reduceLT, Nat.reduceSub, ↓reduceIte, reduceCtorEq, hcl, ha, hb]; exact h3); rotate_left 1; (· intro hgt; (try simp only [decide_eq_true_eq, decide_eq_false_iff_not, Bool.not_eq_true', Bool.not_eq_false', Bool.and_eq_true, Bool.or_eq_true, Bool.and_eq_false_iff, Bool.or_eq_false_iff, beq_true, beq_false] at hgt); simp (maxSteps := 4000000) (disch := first | assumption | omega | (simp only [go_sem, *]; done) | (simp only [go_sem, *]; omega)) only [go_sem, isE, isO, stpO, notIn, St.bare, Bool.false_and, Bool.true_and, Bool.and_true, Bool.not_true, Bool.not_false, Int.reduceToNat, Nat.reduceBEq, Nat.reduceEqDiff, Nat.reduceAdd, Nat.reduceMul, Nat.reduceLeDiff, Nat.reduceLT, Nat.reduceSub, ↓reduceIte, reduceCtorEq, hcl, ha, hb]; (repeat (refine And.intro (by first | assumption | omega | decide | (simp; done) | (simp; omega)) ?_)); first | rfl | exact ⟨rfl, rfl⟩); simp only [St.put]; refine hKq _ ?_; clear hKq Kq)
  refine evR_step fun Kq hKq => ?_; refine evO_guard (gb := ?_) (v0 := ?_) rfl ?_ ?_ ?_; rotate_left 1; (· intro K3 h3; simp (maxSteps := 4000000) (disch := first | assumption | omega | (simp only [go_sem, *]; done) | (simp only [go_sem, *]; omega)) only [go_sem, isE, isO, stpO, notIn, St.bare, Bool.false_and, Bool.true_and, Bool.and_true, Bool.not_true, Bool.not_false, Int.reduceToNat, Nat.reduceBEq, Nat.reduceEqDiff, Nat.reduceAdd, Nat.reduceMul, Nat.reduceLeDiff, Nat.reduceLT, Nat.reduceSub, ↓reduceIte, reduceCtorEq, hcl, ha, hb]; exact h3); rotate_left 1
  · intro hgt; (try simp only [decide_eq_true_eq, decide_eq_false_iff_not, Bool.not_eq_true', Bool.not_eq_false', Bool.and_eq_true, Bool.or_eq_true, Bool.and_eq_false_iff, Bool.or_eq_false_iff, beq_true, beq_false] at hgt); simp (maxSteps := 4000000) (disch := first | assumption | omega | (simp only [go_sem, *]; done) | (simp only [go_sem, *]; omega)) only [go_sem, isE, isO, stpO, notIn, St.bare, Bool.false_and, Bool.true_and, Bool.and_true, Bool.not_true, Bool.not_false, Int.reduceToNat, Nat.reduceBEq, Nat.reduceEqDiff, Nat.reduceAdd, Nat.reduceMul, Nat.reduceLeDiff, Nat.reduceLT, Nat.reduceSub, ↓reduceIte, reduceCtorEq, hcl, ha, hb]; (repeat (refine And.intro (by first | assumption | omega | decide | (simp; done) | (simp; omega)) ?_))
    refine ⟨_, (c13 _ (by assumption)), ?_⟩
    first | rfl | exact ⟨rfl, rfl⟩
  simp only [St.put]; refine hKq _ ?_; clear hKq Kq
  iterate 1 (refine evR_step fun Kq hKq => ?_; refine evO_guard (gb := ?_) (v0 := ?_) rfl ?_ ?_ ?_; rotate_left 1; (· intro K3 h3; simp (maxSteps := 4000000) (disch := first | assumption | omega | (simp only [go_sem, *]; done) | (simp only [go_sem, *]; omega)) only [go_sem, isE, isO, stpO, notIn, St.bare, Bool.false_and, Bool.true_and, Bool.and_true, Bool.not_true, Bool.not_false, Int.reduceToNat, Nat.reduceBEq, Nat.reduceEqDiff, Nat.reduceAdd, Nat.reduceMul, Nat.reduceLeDiff, Nat.reduceLT, Nat.reduceSub, ↓reduceIte, reduceCtorEq, hcl, ha, hb]; exact h3); rotate_left 1; (· intro hgt; (try simp only [decide_eq_true_eq, decide_eq_false_iff_not, Bool.not_eq_true', Bool.not_eq_false', Bool.and_eq_true, Bool.or_eq_true, Bool.and_eq_false_iff, Bool.or_eq_false_iff, beq_true, beq_false] at hgt); simp (maxSteps := 4000000) (disch := first | assumption | omega | (simp only [go_sem, *]; done) | (simp only [go_sem, *]; omega)) only [go_sem, isE, isO, stpO, notIn, St.bare, Bool.false_and, Bool.true_and, Bool.and_true, Bool.not_true, Bool.not_false, Int.reduceToNat, Nat.reduceBEq, Nat.reduceEqDiff, Nat.reduceAdd, Nat.reduceMul, Nat.reduceLeDiff, Nat.reduceLT, Nat.reduceSub, ↓reduceIte, reduceCtorEq, hcl, ha, hb]; (repeat (refine And.intro (by first | assumption | omega | decide | (simp; done) | (simp; omega)) ?_)); first | rfl | exact ⟨rfl, rfl⟩); simp only [St.put]; refine hKq _ ?_; clear hKq Kq)
  iterate 1 (refine evR_step fun Kq hKq => ?_; simp (maxSteps := 4000000) (disch := first | assumption | omega | (simp only [go_sem, *]; done) | (simp only [go_sem, *]; omega)) only [go_sem, isE, isO, stpO, notIn, St.bare, Bool.false_and, Bool.true_and, Bool.and_true, Bool.not_true, Bool.not_false, Int.reduceToNat, Nat.reduceBEq, Nat.reduceEqDiff, Nat.reduceAdd, Nat.reduceMul, Nat.reduceLeDiff, Nat.reduceLT, Nat.reduceSub, ↓reduceIte, reduceCtorEq, hcl, ha, hb]; (repeat (refine And.intro (by first | assumption | omega | decide | (simp; done) | (simp; omega)) ?_)); refine hKq _ ?_; clear hKq Kq)
  refine evR_nil (hK _ ?_); clear hK K
  simp only [St.norm, thenE, inBlkE, List.filterMap, List.lookup, Option.map, Nat.reduceBEq]
  refine hK4 _ ?_
  refine tr_cond rfl (fun ht1 => ?_) (fun ht1 => ?_)
  · (try simp only [decide_eq_true_eq, decide_eq_false_iff_not, Bool.not_eq_true', Bool.not_eq_false', Bool.and_eq_true, Bool.or_eq_true, Bool.and_eq_false_iff, Bool.or_eq_false_iff, beq_true, beq_false] at ht1)
    refine tr_seq fun K5 hK5 => ?_
    refine tr_region [6] rfl rfl fun K hK => ?_
    iterate 2 (refine evR_step fun Kq hKq => ?_; simp (maxSteps := 4000000) (disch := first | assumption | omega | (simp only [go_sem, *]; done) | (simp only [go_sem, *]; omega)) only [go_sem, isE, isO, stpO, notIn, St.bare, Bool.false_and, Bool.true_and, Bool.and_true, Bool.not_true, Bool.not_false, Int.reduceToNat, Nat.reduceBEq, Nat.reduceEqDiff, Nat.reduceAdd, Nat.reduceMul, Nat.reduceLeDiff, Nat.reduceLT, Nat.reduceSub, ↓reduceIte, reduceCtorEq, hcl, ha, hb]; (repeat (refine And.intro (by first | assumption | omega | decide | (simp; done) | (simp; omega)) ?_)); refine hKq _ ?_; clear hKq Kq)
    refine evR_nil (hK _ ?_); clear hK K
    simp only [St.norm, thenE, inBlkE, List.filterMap, List.lookup, Option.map, Nat.reduceBEq]
    refine hK5 _ ?_
    refine tr_ret ?_
    (try simp only [thenE, inBlkE])
    simp (maxSteps := 4000000) (disch := first | assumption | omega | (simp only [go_sem, *]; done) | (simp only [go_sem, *]; omega)) only [postA, postO, resV1, fzAll, go_sem, isE, isO, stpO, notIn, St.bare, Bool.false_and, Bool.true_and, Bool.and_true, Bool.not_true, Bool.not_false, Int.reduceToNat, Nat.reduceBEq, Nat.reduceEqDiff, Nat.reduceAdd, Nat.reduceMul, Nat.reduceLeDiff, Nat.reduceLT, Nat.reduceSub, ↓reduceIte, reduceCtorEq, hcl, ha, hb]
    all_goals ((cases hva : validA a <;> cases hvb : validA b <;> simp_all [eachA, zeros16, outA_allg]))
  · (try simp only [decide_eq_true_eq, decide_eq_false_iff_not, Bool.not_eq_true', Bool.not_eq_false', Bool.and_eq_true, Bool.or_eq_true, Bool.and_eq_false_iff, Bool.or_eq_false_iff, beq_true, beq_false] at ht1)
    refine tr_skip ?_
    (try simp only [thenE, inBlkE])
    refine hK3 _ ?_
    refine tr_seq fun K6 hK6 => ?_
    refine tr_seq fun K7 hK7 => ?_
    refine tr_region [2, 3, 4, 6, 7, 18] rfl rfl fun K hK => ?_
    iterate 1 (refine evR_step fun Kq hKq => ?_; simp (maxSteps := 4000000) (disch := first | assumption | omega | (simp only [go_sem, *]; done) | (simp only [go_sem, *]; omega)) only [go_sem, isE, isO, stpO, notIn, St.bare, Bool.false_and, Bool.true_and, Bool.and_true, Bool.not_true, Bool.not_false, Int.reduceToNat, Nat.reduceBEq, Nat.reduceEqDiff, Nat.reduceAdd, Nat.reduceMul, Nat.reduceLeDiff, Nat.reduceLT, Nat.reduceSub, ↓reduceIte, reduceCtorEq, hcl, ha, hb]; (repeat (refine And.intro (by first | assumption | omega | decide | (simp; done) | (simp; omega)) ?_)); refine hKq _ ?_; clear hKq Kq)
    refine evR_nil (hK _ ?_); clear hK K
    simp only [St.norm, thenE, inBlkE, List.filterMap, List.lookup, Option.map, Nat.reduceBEq]
    refine hK7 _ ?_
    refine tr_block ?_
    -- loop 1: live [2, 3, 4, 6, 7, 18]
    refine tr_loopW (fun m σ => ∃ i, i + m = 16 ∧ σ = ⟨[(2, .fn f caps), (3, .ptr 0 0), (4, .ptr 1 0), (6, .ptr 2 0), (7, .ptr 3 0), (18, .int .i64 (i : Nat))], [(3, .cells (cellsI (outA (fun j => p (a.getD j 0) (b.getD j 0)) i))), (2, .cells (cellsI (List.replicate 16 0))), (1, .cells (cellsI b)), (0, .cells (cellsI a))], 4⟩) (16) ?_ ?_
    · exact ⟨_, Wk.refl _, 0, by omega, by rw [outA_zero]; rfl⟩
    · rintro m σ ⟨i, hi, rfl⟩ KL1 hKL1
      refine tr_seq fun K8 hK8 => ?_
      refine tr_region [2, 3, 4, 6, 7, 18, 19] rfl rfl fun K hK => ?_
      iterate 1 (refine evR_step fun Kq hKq => ?_; simp (maxSteps := 4000000) (disch := first | assumption | omega | (simp only [go_sem, *]; done) | (simp only [go_sem, *]; omega)) only [go_sem, isE, isO, stpO, notIn, St.bare, Bool.false_and, Bool.true_and, Bool.and_true, Bool.not_true, Bool.not_false, Int.reduceToNat, Nat.reduceBEq, Nat.reduceEqDiff, Nat.reduceAdd, Nat.reduceMul, Nat.reduceLeDiff, Nat.reduceLT, Nat.reduceSub, ↓reduceIte, reduceCtorEq, hcl, ha, hb]; (repeat (refine And.intro (by first | assumption | omega | decide | (simp; done) | (simp; omega)) ?_)); refine hKq _ ?_; clear hKq Kq)
      refine evR_nil (hK _ ?_); clear hK K
      simp only [St.norm, thenE, inBlkE, List.filterMap, List.lookup, Option.map, Nat.reduceBEq]
      refine hK8 _ ?_
      refine tr_seq fun K9 hK9 => ?_
      refine tr_cond rfl (fun ht2 => ?_) (fun ht2 => ?_)
      · (try simp only [decide_eq_true_eq, decide_eq_false_iff_not, Bool.not_eq_true', Bool.not_eq_false', Bool.and_eq_true, Bool.or_eq_true, Bool.and_eq_false_iff, Bool.or_eq_false_iff, beq_true, beq_false] at ht2)
        have hil : i < 16 := by omega
        have hia : i < a.length := by omega
        have hib : i < b.length := by omega
        refine tr_skip ?_
        (try simp only [thenE, inBlkE])
        refine hK9 _ ?_
        refine tr_seq fun K10 hK10 => ?_
        refine tr_block ?_
        refine tr_seq fun K11 hK11 => ?_
        refine tr_region [2, 3, 4, 6, 7, 8, 18] rfl rfl fun K hK => ?_
        iterate 2 (refine evR_step fun Kq hKq => ?_; simp (maxSteps := 4000000) (disch := first | assumption | omega | (simp only [go_sem, *]; done) | (simp only [go_sem, *]; omega)) only [go_sem, isE, isO, stpO, notIn, St.bare, Bool.false_and, Bool.true_and, Bool.and_true, Bool.not_true, Bool.not_false, Int.reduceToNat, Nat.reduceBEq, Nat.reduceEqDiff, Nat.reduceAdd, Nat.reduceMul, Nat.reduceLeDiff, Nat.reduceLT, Nat.reduceSub, ↓reduceIte, reduceCtorEq, hcl, ha, hb, hil, hia, hib, outA_length]; (repeat (refine And.intro (by first | assumption | omega | decide | (simp; done) | (simp; omega)) ?_)); refine hKq _ ?_; clear hKq Kq)
        refine evR_nil (hK _ ?_); clear hK K
        simp only [St.norm, thenE, inBlkE, List.filterMap, List.lookup, Option.map, Nat.reduceBEq]
        refine hK11 _ ?_
        refine tr_draw [] [2, 3, 4, 6, 7, 18] mixed rfl (by kernel_rfl) rfl fun K hK => ?_
        iterate 8 (refine evD_step fun Kq hKq => ?_; simp (maxSteps := 4000000) (disch := first | assumption | omega | (simp only [go_sem, *]; done) | (simp only [go_sem, *]; omega)) only [go_sem, isE, isO, stpO, notIn, St.bare, Bool.false_and, Bool.true_and, Bool.and_true, Bool.not_true, Bool.not_false, Int.reduceToNat, Nat.reduceBEq, Nat.reduceEqDiff, Nat.reduceAdd, Nat.reduceMul, Nat.reduceLeDiff, Nat.reduceLT, Nat.reduceSub, ↓reduceIte, reduceCtorEq, hcl, ha, hb, hil, hia, hib, outA_length]; (repeat (refine And.intro (by first | assumption | omega | decide | (simp; done) | (simp; omega)) ?_)); refine hKq _ ?_; clear hKq Kq)
        refine evD_step fun Kq hKq => ?_
        simp (maxSteps := 4000000) (disch := first | assumption | omega | (simp only [go_sem, *]; done) | (simp only [go_sem, *]; omega)) only [go_sem, isE, isO, stpO, notIn, St.bare, Bool.false_and, Bool.true_and, Bool.and_true, Bool.not_true, Bool.not_false, Int.reduceToNat, Nat.reduceBEq, Nat.reduceEqDiff, Nat.reduceAdd, Nat.reduceMul, Nat.reduceLeDiff, Nat.reduceLT, Nat.reduceSub, ↓reduceIte, reduceCtorEq, hcl, ha, hb, hil, hia, hib, outA_length]
        (repeat (refine And.intro (by first | assumption | omega | decide | (simp; done) | (simp; omega)) ?_))
        refine ⟨_, (hp _ _), ?_⟩
        refine hKq _ ?_; clear hKq Kq
        iterate 2 (refine evD_step fun Kq hKq => ?_; simp (maxSteps := 4000000) (disch := first | assumption | omega | (simp only [go_sem, *]; done) | (simp only [go_sem, *]; omega)) only [go_sem, isE, isO, stpO, notIn, St.bare, Bool.false_and, Bool.true_and, Bool.and_true, Bool.not_true, Bool.not_false, Int.reduceToNat, Nat.reduceBEq, Nat.reduceEqDiff, Nat.reduceAdd, Nat.reduceMul, Nat.reduceLeDiff, Nat.reduceLT, Nat.reduceSub, ↓reduceIte, reduceCtorEq, hcl, ha, hb, hil, hia, hib, outA_length]; (repeat (refine And.intro (by first | assumption | omega | decide | (simp; done) | (simp; omega)) ?_)); refine hKq _ ?_; clear hKq Kq)
        refine evD_nil (hK _ ?_); clear hK K
        simp only [St.norm, thenE, inBlkE, List.filterMap, List.lookup, Option.map, Nat.reduceBEq]
        refine hK10 _ ?_
        refine tr_region [2, 3, 4, 6, 7, 18] rfl rfl fun K hK => ?_
        iterate 2 (refine evR_step fun Kq hKq => ?_; simp (maxSteps := 4000000) (disch := first | assumption | omega | (simp only [go_sem, *]; done) | (simp only [go_sem, *]; omega)) only [go_sem, isE, isO, stpO, notIn, St.bare, Bool.false_and, Bool.true_and, Bool.and_true, Bool.not_true, Bool.not_false, Int.reduceToNat, Nat.reduceBEq, Nat.reduceEqDiff, Nat.reduceAdd, Nat.reduceMul, Nat.reduceLeDiff, Nat.reduceLT, Nat.reduceSub, ↓reduceIte, reduceCtorEq, hcl, ha, hb, hil, hia, hib, outA_length]; (repeat (refine And.intro (by first | assumption | omega | decide | (simp; done) | (simp; omega)) ?_)); refine hKq _ ?_; clear hKq Kq)
        refine evR_nil (hK _ ?_); clear hK K
        simp only [St.norm, thenE, inBlkE, List.filterMap, List.lookup, Option.map, Nat.reduceBEq]
        refine hKL1 _ ?_
        exact ⟨m - 1, _, by omega, Wk.refl _, i + 1, by omega, by rw [w64 (by omega), outA_set _ (by omega)]; rfl⟩
      · (try simp only [decide_eq_true_eq, decide_eq_false_iff_not, Bool.not_eq_true', Bool.not_eq_false', Bool.and_eq_true, Bool.or_eq_true, Bool.and_eq_false_iff, Bool.or_eq_false_iff, beq_true, beq_false] at ht2)
        have hil : i = 16 := by omega
        subst hil
        refine tr_exit ?_
        simp only [thenE, inBlkE, Nat.reduceEqDiff, ↓reduceIte]
        refine hK6 _ ?_
        refine tr_seq fun K12 hK12 => ?_
        refine tr_region [6] rfl rfl fun K hK => ?_
        iterate 2 (refine evR_step fun Kq hKq => ?_; simp (maxSteps := 4000000) (disch := first | assumption | omega | (simp only [go_sem, *]; done) | (simp only [go_sem, *]; omega)) only [go_sem, isE, isO, stpO, notIn, St.bare, Bool.false_and, Bool.true_and, Bool.and_true, Bool.not_true, Bool.not_false, Int.reduceToNat, Nat.reduceBEq, Nat.reduceEqDiff, Nat.reduceAdd, Nat.reduceMul, Nat.reduceLeDiff, Nat.reduceLT, Nat.reduceSub, ↓reduceIte, reduceCtorEq, hcl, ha, hb]; (repeat (refine And.intro (by first | assumption | omega | decide | (simp; done) | (simp; omega)) ?_)); refine hKq _ ?_; clear hKq Kq)
        refine evR_nil (hK _ ?_); clear hK K
        simp only [St.norm, thenE, inBlkE, List.filterMap, List.lookup, Option.map, Nat.reduceBEq]
        refine hK12 _ ?_
        refine tr_ret ?_
        (try simp only [thenE, inBlkE])
        simp (maxSteps := 4000000) (disch := first | assumption | omega | (simp only [go_sem, *]; done) | (simp only [go_sem, *]; omega)) only [postA, postO, resV1, fzAll, go_sem, isE, isO, stpO, notIn, St.bare, Bool.false_and, Bool.true_and, Bool.and_true, Bool.not_true, Bool.not_false, Int.reduceToNat, Nat.reduceBEq, Nat.reduceEqDiff, Nat.reduceAdd, Nat.reduceMul, Nat.reduceLeDiff, Nat.reduceLT, Nat.reduceSub, ↓reduceIte, reduceCtorEq, hcl, ha, hb]
        all_goals ((cases hva : validA a <;> cases hvb : validA b <;> simp_all [eachA, zeros16, outA_allg]))

theorem c17 (a b : List Int) (ha : a.length = 16) (hb : b.length = 16) : CallsA Try.prog 17 [.agg (cellsI a), .agg (cellsI b)] (.agg (cellsI (eachA (bitsV .or .i64) a b))) := by
  refine callsA_of_tr Try.func17 rfl (Nat.le_of_ble_eq_true rfl) ?_
  simp only [Try.results17, envOf, Nat.reduceAdd]
  refine tr_seq fun K1 hK1 => ?_
  refine tr_region [2, 3, 4] rfl rfl fun K hK => ?_
  iterate 3 (refine evR_step fun Kq hKq => ?_; simp (maxSteps := 4000000) (disch := first | assumption | omega | (simp only [go_sem, *]; done) | (simp only [go_sem, *]; omega)) only [go_sem, isE, isO, stpO, notIn, St.bare, Bool.false_and, Bool.true_and, Bool.and_true, Bool.not_true, Bool.not_false, Int.reduceToNat, Nat.reduceBEq, Nat.reduceEqDiff, Nat.reduceAdd, Nat.reduceMul, Nat.reduceLeDiff, Nat.reduceLT, Nat.reduceSub, ↓reduceIte, reduceCtorEq, ha, hb, eachA_length]; (repeat (refine And.intro (by first | assumption | omega | decide | (simp; done) | (simp; omega)) ?_)); refine hKq _ ?_; clear hKq Kq)
  refine evR_nil (hK _ ?_); clear hK K
  simp only [St.norm, thenE, inBlkE, List.filterMap, List.lookup, Option.map, Nat.reduceBEq]
  refine hK1 _ ?_
  refine tr_seq fun K2 hK2 => ?_
  refine tr_region [4] rfl rfl fun K hK => ?_
  iterate 2 (refine evR_step fun Kq hKq => ?_; simp (maxSteps := 4000000) (disch := first | assumption | omega | (simp only [go_sem, *]; done) | (simp only [go_sem, *]; omega)) only [go_sem, isE, isO, stpO, notIn, St.bare, Bool.false_and, Bool.true_and, Bool.and_true, Bool.not_true, Bool.not_false, Int.reduceToNat, Nat.reduceBEq, Nat.reduceEqDiff, Nat.reduceAdd, Nat.reduceMul, Nat.reduceLeDiff, Nat.reduceLT, Nat.reduceSub, ↓reduceIte, reduceCtorEq, ha, hb, eachA_length]; (repeat (refine And.intro (by first | assumption | omega | decide | (simp; done) | (simp; omega)) ?_)); refine hKq _ ?_; clear hKq Kq)
  refine evR_step fun Kq hKq => ?_
  simp (maxSteps := 4000000) (disch := first | assumption | omega | (simp only [go_sem, *]; done) | (simp only [go_sem, *]; omega)) only [go_sem, isE, isO, stpO, notIn, St.bare, Bool.false_and, Bool.true_and, Bool.and_true, Bool.not_true, Bool.not_false, Int.reduceToNat, Nat.reduceBEq, Nat.reduceEqDiff, Nat.reduceAdd, Nat.reduceMul, Nat.reduceLeDiff, Nat.reduceLT, Nat.reduceSub, ↓reduceIte, reduceCtorEq, ha, hb, eachA_length]
  (repeat (refine And.intro (by first | assumption | omega | decide | (simp; done) | (simp; omega)) ?_))
  refine ⟨_, (c44 a b ha hb 45 [] _ okF_45 rfl (fun x y => c45 x y)), ?_⟩
  refine hKq _ ?_; clear hKq Kq
  iterate 1 (refine evR_step fun Kq hKq => ?_; simp (maxSteps := 4000000) (disch := first | assumption | omega | (simp only [go_sem, *]; done) | (simp only [go_sem, *]; omega)) only [go_sem, isE, isO, stpO, notIn, St.bare, Bool.false_and, Bool.true_and, Bool.and_true, Bool.not_true, Bool.not_false, Int.reduceToNat, Nat.reduceBEq, Nat.reduceEqDiff, Nat.reduceAdd, Nat.reduceMul, Nat.reduceLeDiff, Nat.reduceLT, Nat.reduceSub, ↓reduceIte, reduceCtorEq, ha, hb, eachA_length]; (repeat (refine And.intro (by first | assumption | omega | decide | (simp; done) | (simp; omega)) ?_)); refine hKq _ ?_; clear hKq Kq)
  refine evR_nil (hK _ ?_); clear hK K
  simp only [St.norm, thenE, inBlkE, List.filterMap, List.lookup, Option.map, Nat.reduceBEq]
  refine hK2 _ ?_
  refine tr_ret ?_
  (try simp only [thenE, inBlkE])
  simp (maxSteps := 4000000) (disch := first | assumption | omega | (simp only [go_sem, *]; done) | (simp only [go_sem, *]; omega)) only [postA, postO, resV1, fzAll, go_sem, isE, isO, stpO, notIn, St.bare, Bool.false_and, Bool.true_and, Bool.and_true, Bool.not_true, Bool.not_false, Int.reduceToNat, Nat.reduceBEq, Nat.reduceEqDiff, Nat.reduceAdd, Nat.reduceMul, Nat.reduceLeDiff, Nat.reduceLT, Nat.reduceSub, ↓reduceIte, reduceCtorEq, ha, hb, eachA_length]
  all_goals (simp [V.cl, cellsI_cl])

theorem c19 (a b : List Int) (ha : a.length = 16) (hb : b.length = 16) : CallsA Try.prog 19 [.agg (cellsI a), .agg (cellsI b)] (.agg (cellsI (eachA (bitsV .and .i64) a b))) := by
  refine callsA_of_tr Try.func19 rfl (Nat.le_of_ble_eq_true rfl) ?_
  simp only [Try.results19, envOf, Nat.reduceAdd]
  refine tr_seq fun K1 hK1 => ?_
  refine tr_region [2, 3, 4] rfl rfl fun K hK => ?_
  iterate 3 (refine evR_step fun Kq hKq => ?_; simp (maxSteps := 4000000) (disch := first | assumption | omega | (simp only [go_sem, *]; done) | (simp only [go_sem, *]; omega)) only [go_sem, isE, isO, stpO, notIn, St.bare, Bool.false_and, Bool.true_and, Bool.and_true, Bool.not_true, Bool.not_false, Int.reduceToNat, Nat.reduceBEq, Nat.reduceEqDiff, Nat.reduceAdd, Nat.reduceMul, Nat.reduceLeDiff, Nat.reduceLT, Nat.reduceSub, ↓reduceIte, reduceCtorEq, ha, hb, eachA_length]; (repeat (refine And.intro (by first | assumption | omega | decide | (simp; done) | (simp; omega)) ?_)); refine hKq _ ?_; clear hKq Kq)
  refine evR_nil (hK _ ?_); clear hK K
  simp only [St.norm, thenE, inBlkE, List.filterMap, List.lookup, Option.map, Nat.reduceBEq]
  refine hK1 _ ?_
  refine tr_seq fun K2 hK2 => ?_
  refine tr_region [4] rfl rfl fun K hK => ?_
  iterate 2 (refine evR_step fun Kq hKq => ?_; simp (maxSteps := 4000000) (disch := first | assumption | omega | (simp only [go_sem, *]; done) | (simp only [go_sem, *]; omega)) only [go_sem, isE, isO, stpO, notIn, St.bare, Bool.false_and, Bool.true_and, Bool.and_true, Bool.not_true, Bool.not_false, Int.reduceToNat, Nat.reduceBEq, Nat.reduceEqDiff, Nat.reduceAdd, Nat.reduceMul, Nat.reduceLeDiff, Nat.reduceLT, Nat.reduceSub, ↓reduceIte, reduceCtorEq, ha, hb, eachA_length]; (repeat (refine And.intro (by first | assumption | omega | decide | (simp; done) | (simp; omega)) ?_)); refine hKq _ ?_; clear hKq Kq)
  refine evR_step fun Kq hKq => ?_
  simp (maxSteps := 4000000) (disch := first | assumption | omega | (simp only [go_sem, *]; done) | (simp only [go_sem, *]; omega)) only [go_sem, isE, isO, stpO, notIn, St.bare, Bool.false_and, Bool.true_and, Bool.and_true, Bool.not_true, Bool.not_false, Int.reduceToNat, Nat.reduceBEq, Nat.reduceEqDiff, Nat.reduceAdd, Nat.reduceMul, Nat.reduceLeDiff, Nat.reduceLT, Nat.reduceSub, ↓reduceIte, reduceCtorEq, ha, hb, eachA_length]
  (repeat (refine And.intro (by first | assumption | omega | decide | (simp; done) | (simp; omega)) ?_))
  refine ⟨_, (c44 a b ha hb 46 [] _ okF_46 rfl (fun x y => c46 x y)), ?_⟩
  refine hKq _ ?_; clear hKq Kq
  iterate 1 (refine evR_step fun Kq hKq => ?_; simp (maxSteps := 4000000) (disch := first | assumption | omega | (simp only [go_sem, *]; done) | (simp only [go_sem, *]; omega)) only [go_sem, isE, isO, stpO, notIn, St.bare, Bool.false_and, Bool.true_and, Bool.and_true, Bool.not_true, Bool.not_false, Int.reduceToNat, Nat.reduceBEq, Nat.reduceEqDiff, Nat.reduceAdd, Nat.reduceMul, Nat.reduceLeDiff, Nat.reduceLT, Nat.reduceSub, ↓reduceIte, reduceCtorEq, ha, hb, eachA_length]; (repeat (refine And.intro (by first | assumption | omega | decide | (simp; done) | (simp; omega)) ?_)); refine hKq _ ?_; clear hKq Kq)
  refine evR_nil (hK _ ?_); clear hK K
  simp only [St.norm, thenE, inBlkE, List.filterMap, List.lookup, Option.map, Nat.reduceBEq]
  refine hK2 _ ?_
  refine tr_ret ?_
  (try simp only [thenE, inBlkE])
  simp (maxSteps := 4000000) (disch := first | assumption | omega | (simp only [go_sem, *]; done) | (simp only [go_sem, *]; omega)) only [postA, postO, resV1, fzAll, go_sem, isE, isO, stpO, notIn, St.bare, Bool.false_and, Bool.true_and, Bool.and_true, Bool.not_true, Bool.not_false, Int.reduceToNat, Nat.reduceBEq, Nat.reduceEqDiff, Nat.reduceAdd, Nat.reduceMul, Nat.reduceLeDiff, Nat.reduceLT, Nat.reduceSub, ↓reduceIte, reduceCtorEq, ha, hb, eachA_length]
  all_goals (simp [V.cl, cellsI_cl])

theorem c21 (a b : List Int) (ha : a.length = 16) (hb : b.length = 16) : CallsA Try.prog 21 [.agg (cellsI a), .agg (cellsI b)] (.agg (cellsI (eachA (bitsV .andNot .i64) a b))) := by
  refine callsA_of_tr Try.func21 rfl (Nat.le_of_ble_eq_true rfl) ?_
  simp only [Try.results21, envOf, Nat.reduceAdd]
  refine tr_seq fun K1 hK1 => ?_
  refine tr_region [2, 3, 4] rfl rfl fun K hK => ?_
  iterate 3 (refine evR_step fun Kq hKq => ?_; simp (maxSteps := 4000000) (disch := first | assumption | omega | (simp only [go_sem, *]; done) | (simp only [go_sem, *]; omega)) only [go_sem, isE, isO, stpO, notIn, St.bare, Bool.false_and, Bool.true_and, Bool.and_true, Bool.not_true, Bool.not_false, Int.reduceToNat, Nat.reduceBEq, Nat.reduceEqDiff, Nat.reduceAdd, Nat.reduceMul, Nat.reduceLeDiff, Nat.reduceLT, Nat.reduceSub, ↓reduceIte, reduceCtorEq, ha, hb, eachA_length]; (repeat (refine And.intro (by first | assumption | omega | decide | (simp; done) | (simp; omega)) ?_)); refine hKq _ ?_; clear hKq Kq)
  refine evR_nil (hK _ ?_); clear hK K
  simp only [St.norm, thenE, inBlkE, List.filterMap, List.lookup, Option.map, Nat.reduceBEq]
  refine hK1 _ ?_
  refine tr_seq fun K2 hK2 => ?_
  refine tr_region [4] rfl rfl fun K hK => ?_
  iterate 2 (refine evR_step fun Kq hKq => ?_; simp (maxSteps := 4000000) (disch := first | assumption | omega | (simp only [go_sem, *]; done) | (simp only [go_sem, *]; omega)) only [go_sem, isE, isO, stpO, notIn, St.bare, Bool.false_and, Bool.true_and, Bool.and_true, Bool.not_true, Bool.not_false, Int.reduceToNat, Nat.reduceBEq, Nat.reduceEqDiff, Nat.reduceAdd, Nat.reduceMul, Nat.reduceLeDiff, Nat.reduceLT, Nat.reduceSub, ↓reduceIte, reduceCtorEq, ha, hb, eachA_length]; (repeat (refine And.intro (by first | assumption | omega | decide | (simp; done) | (simp; omega)) ?_)); refine hKq _ ?_; clear hKq Kq)
  refine evR_step fun Kq hKq => ?_
  simp (maxSteps := 4000000) (disch := first | assumption | omega | (simp only [go_sem, *]; done) | (simp only [go_sem, *]; omega)) only [go_sem, isE, isO, stpO, notIn, St.bare, Bool.false_and, Bool.true_and, Bool.and_true, Bool.not_true, Bool.not_false, Int.reduceToNat, Nat.reduceBEq, Nat.reduceEqDiff, Nat.reduceAdd, Nat.reduceMul, Nat.reduceLeDiff, Nat.reduceLT, Nat.reduceSub, ↓reduceIte, reduceCtorEq, ha, hb, eachA_length]
  (repeat (refine And.intro (by first | assumption | omega | decide | (simp; done) | (simp; omega)) ?_))
  refine ⟨_, (c44 a b ha hb 47 [] _ okF_47 rfl (fun x y => c47 x y)), ?_⟩
  refine hKq _ ?_; clear hKq Kq
  iterate 1 (refine evR_step fun Kq hKq => ?_; simp (maxSteps := 4000000) (disch := first | assumption | omega | (simp only [go_sem, *]; done) | (simp only [go_sem, *]; omega)) only [go_sem, isE, isO, stpO, notIn, St.bare, Bool.false_and, Bool.true_and, Bool.and_true, Bool.not_true, Bool.not_false, Int.reduceToNat, Nat.reduceBEq, Nat.reduceEqDiff, Nat.reduceAdd, Nat.reduceMul, Nat.reduceLeDiff, Nat.reduceLT, Nat.reduceSub, ↓reduceIte, reduceCtorEq, ha, hb, eachA_length]; (repeat (refine And.intro (by first | assumption | omega | decide | (simp; done) | (simp; omega)) ?_)); refine hKq _ ?_; clear hKq Kq)
  refine evR_nil (hK _ ?_); clear hK K
  simp only [St.norm, thenE, inBlkE, List.filterMap, List.lookup, Option.map, Nat.reduceBEq]
  refine hK2 _ ?_
  refine tr_ret ?_
  (try simp only [thenE, inBlkE])
  simp (maxSteps := 4000000) (disch := first | assumption | omega | (simp only [go_sem, *]; done) | (simp only [go_sem, *]; omega)) only [postA, postO, resV1, fzAll, go_sem, isE, isO, stpO, notIn, St.bare, Bool.false_and, Bool.true_and, Bool.and_true, Bool.not_true, Bool.not_false, Int.reduceToNat, Nat.reduceBEq, Nat.reduceEqDiff, Nat.reduceAdd, Nat.reduceMul, Nat.reduceLeDiff, Nat.reduceLT, Nat.reduceSub, ↓reduceIte, reduceCtorEq, ha, hb, eachA_length]
  all_goals (simp [V.cl, cellsI_cl])

theorem c23 (a b : List Int) (ha : a.length = 16) (hb : b.length = 16) : CallsA Try.prog 23 [.agg (cellsI a), .agg (cellsI b)] (.bool (withinA a b)) := by
  refine callsA_of_tr Try.func23 rfl (Nat.le_of_ble_eq_true rfl) ?_
  simp only [Try.results23, envOf, Nat.reduceAdd]
  refine tr_seq fun K1 hK1 => ?_
  refine tr_region [2, 3] rfl rfl fun K hK => ?_
  iterate 3 (refine evR_step fun Kq hKq => ?_; simp (maxSteps := 4000000) (disch := first | assumption | omega | (simp only [go_sem, *]; done) | (simp only [go_sem, *]; omega)) only [go_sem, isE, isO, stpO, notIn, St.bare, Bool.false_and, Bool.true_and, Bool.and_true, Bool.not_true, Bool.not_false, Int.reduceToNat, Nat.reduceBEq, Nat.reduceEqDiff, Nat.reduceAdd, Nat.reduceMul, Nat.reduceLeDiff, Nat.reduceLT, Nat.reduceSub, ↓reduceIte, reduceCtorEq, ha, hb, eachA_length, agEq_cells, cellsI_isI]; (repeat (refine And.intro (by first | assumption | omega | decide | (simp; done) | (simp; omega)) ?_)); refine hKq _ ?_; clear hKq Kq)
  refine evR_nil (hK _ ?_); clear hK K
  simp only [St.norm, thenE, inBlkE, List.filterMap, List.lookup, Option.map, Nat.reduceBEq]
  refine hK1 _ ?_
  refine tr_seq fun K2 hK2 => ?_
  refine tr_region [4] rfl rfl fun K hK => ?_
  iterate 1 (refine evR_step fun Kq hKq => ?_; simp (maxSteps := 4000000) (disch := first | assumption | omega | (simp only [go_sem, *]; done) | (simp only [go_sem, *]; omega)) only [go_sem, isE, isO, stpO, notIn, St.bare, Bool.false_and, Bool.true_and, Bool.and_true, Bool.not_true, Bool.not_false, Int.reduceToNat, Nat.reduceBEq, Nat.reduceEqDiff, Nat.reduceAdd, Nat.reduceMul, Nat.reduceLeDiff, Nat.reduceLT, Nat.reduceSub, ↓reduceIte, reduceCtorEq, ha, hb, eachA_length, agEq_cells, cellsI_isI]; (repeat (refine And.intro (by first | assumption | omega | decide | (simp; done) | (simp; omega)) ?_)); refine hKq _ ?_; clear hKq Kq)
  refine evR_step fun Kq hKq => ?_
  simp (maxSteps := 4000000) (disch := first | assumption | omega | (simp only [go_sem, *]; done) | (simp only [go_sem, *]; omega)) only [go_sem, isE, isO, stpO, notIn, St.bare, Bool.false_and, Bool.true_and, Bool.and_true, Bool.not_true, Bool.not_false, Int.reduceToNat, Nat.reduceBEq, Nat.reduceEqDiff, Nat.reduceAdd, Nat.reduceMul, Nat.reduceLeDiff, Nat.reduceLT, Nat.reduceSub, ↓reduceIte, reduceCtorEq, ha, hb, eachA_length, agEq_cells, cellsI_isI]
  (repeat (refine And.intro (by first | assumption | omega | decide | (simp; done) | (simp; omega)) ?_))
  refine ⟨_, (c13 _ (by assumption)), ?_⟩
  refine hKq _ ?_; clear hKq Kq
  iterate 1 (refine evR_step fun Kq hKq => ?_; simp (maxSteps := 4000000) (disch := first | assumption | omega | (simp only [go_sem, *]; done) | (simp only [go_sem, *]; omega)) only [go_sem, isE, isO, stpO, notIn, St.bare, Bool.false_and, Bool.true_and, Bool.and_true, Bool.not_true, Bool.not_false, Int.reduceToNat, Nat.reduceBEq, Nat.reduceEqDiff, Nat.reduceAdd, Nat.reduceMul, Nat.reduceLeDiff, Nat.reduceLT, Nat.reduceSub, ↓reduceIte, reduceCtorEq, ha, hb, eachA_length, agEq_cells, cellsI_isI]; (repeat (refine And.intro (by first | assumption | omega | decide | (simp; done) | (simp; omega)) ?_)); refine hKq _ ?_; clear hKq Kq)
  iterate 1 (refine evR_step fun Kq hKq => ?_; refine evO_guard (gb := ?_) (v0 := ?_) rfl ?_ ?_ ?_; rotate_left 1; (· intro K3 h3; simp (maxSteps := 4000000) (disch := first | assumption | omega | (simp only [go_sem, *]; done) | (simp only [go_sem, *]; omega)) only [go_sem, isE, isO, stpO, notIn, St.bare, Bool.false_and, Bool.true_and, Bool.and_true, Bool.not_true, Bool.not_false, Int.reduceToNat, Nat.reduceBEq, Nat.reduceEqDiff, Nat.reduceAdd, Nat.reduceMul, Nat.reduceLeDiff, Nat.reduceLT, Nat.reduceSub, ↓reduceIte, reduceCtorEq, ha, hb, eachA_length, agEq_cells, cellsI_isI]; exact h3); rotate_left 1; (· intro hgt; (try simp only [decide_eq_true_eq, decide_eq_false_iff_not, Bool.not_eq_true', Bool.not_eq_false', Bool.and_eq_true, Bool.or_eq_true, Bool.and_eq_false_iff, Bool.or_eq_false_iff, beq_true, beq_false] at hgt); simp (maxSteps := 4000000) (disch := first | assumption | omega | (simp only [go_sem, *]; done) | (simp only [go_sem, *]; omega)) only [go_sem, isE, isO, stpO, notIn, St.bare, Bool.false_and, Bool.true_and, Bool.and_true, Bool.not_true, Bool.not_false, Int.reduceToNat, Nat.reduceBEq, Nat.reduceEqDiff, Nat.reduceAdd, Nat.reduceMul, Nat.reduceLeDiff, Nat.reduceLT, Nat.reduceSub, ↓reduceIte, reduceCtorEq, ha, hb, eachA_length, agEq_cells, cellsI_isI]; (repeat (refine And.intro (by first | assumption | omega | decide | (simp; done) | (simp; omega)) ?_)); first | rfl | exact ⟨rfl, rfl⟩); simp only [St.put]; refine hKq _ ?_; clear hKq Kq)
  refine evR_step fun Kq hKq => ?_; refine evO_guard (gb := ?_) (v0 := ?_) rfl ?_ ?_ ?_; rotate_left 1; (· intro K3 h3; simp (maxSteps := 4000000) (disch := first | assumption | omega | (simp only [go_sem, *]; done) | (simp only [go_sem, *]; omega)) only [go_sem, isE, isO, stpO, notIn, St.bare, Bool.false_and, Bool.true_and, Bool.and_true, Bool.not_true, Bool.not_false, Int.reduceToNat, Nat.reduceBEq, Nat.reduceEqDiff, Nat.reduceAdd, Nat.reduceMul, Nat.reduceLeDiff, Nat.reduceLT, Nat.reduceSub, ↓reduceIte, reduceCtorEq, ha, hb, eachA_length, agEq_cells, cellsI_isI]; exact h3); rotate_left 1
  · intro hgt; (try simp only [decide_eq_true_eq, decide_eq_false_iff_not, Bool.not_eq_true', Bool.not_eq_false', Bool.and_eq_true, Bool.or_eq_true, Bool.and_eq_false_iff, Bool.or_eq_false_iff, beq_true, beq_false] at hgt); simp (maxSteps := 4000000) (disch := first | assumption | omega | (simp only [go_sem, *]; done) | (simp only [go_sem, *]; omega)) only [go_sem, isE, isO, stpO, notIn, St.bare, Bool.false_and, Bool.true_and, Bool.and_true, Bool.not_true, Bool.not_false, Int.reduceToNat, Nat.reduceBEq, Nat.reduceEqDiff, Nat.reduceAdd, Nat.reduceMul, Nat.reduceLeDiff, Nat.reduceLT, Nat.reduceSub, ↓reduceIte, reduceCtorEq, ha, hb, eachA_length, agEq_cells, cellsI_isI]; (repeat (refine And.intro (by first | assumption | omega | decide | (simp; done) | (simp; omega)) ?_))
    refine ⟨_, (c13 _ (by assumption)), ?_⟩
    first | rfl | exact ⟨rfl, rfl⟩
  simp only [St.put]; refine hKq _ ?_; clear hKq Kq
  iterate 2 (refine evR_step fun Kq hKq => ?_; simp (maxSteps := 4000000) (disch := first | assumption | omega | (simp only [go_sem, *]; done) | (simp only [go_sem, *]; omega)) only [go_sem, isE, isO, stpO, notIn, St.bare, Bool.false_and, Bool.true_and, Bool.and_true, Bool.not_true, Bool.not_false, Int.reduceToNat, Nat.reduceBEq, Nat.reduceEqDiff, Nat.reduceAdd, Nat.reduceMul, Nat.reduceLeDiff, Nat.reduceLT, Nat.reduceSub, ↓reduceIte, reduceCtorEq, ha, hb, eachA_length, agEq_cells, cellsI_isI]; (repeat (refine And.intro (by first | assumption | omega | decide | (simp; done) | (simp; omega)) ?_)); refine hKq _ ?_; clear hKq Kq)
  iterate 2 (refine evR_step fun Kq hKq => ?_; refine evO_guard (gb := ?_) (v0 := ?_) rfl ?_ ?_ ?_; rotate_left 1; (· intro K3 h3; simp (maxSteps := 4000000) (disch := first | assumption | omega | (simp only [go_sem, *]; done) | (simp only [go_sem, *]; omega)) only [go_sem, isE, isO, stpO, notIn, St.bare, Bool.false_and, Bool.true_and, Bool.and_true, Bool.not_true, Bool.not_false, Int.reduceToNat, Nat.reduceBEq, Nat.reduceEqDiff, Nat.reduceAdd, Nat.reduceMul, Nat.reduceLeDiff, Nat.reduceLT, Nat.reduceSub, ↓reduceIte, reduceCtorEq, ha, hb, eachA_length, agEq_cells, cellsI_isI]; exact h3); rotate_left 1; (· intro hgt; (try simp only [decide_eq_true_eq, decide_eq_false_iff_not, Bool.not_eq_true', Bool.not_eq_false', Bool.and_eq_true, Bool.or_eq_true, Bool.and_eq_false_iff, Bool.or_eq_false_iff, beq_true, beq_false] at hgt); simp (maxSteps := 4000000) (disch := first | assumption | omega | (simp only [go_sem, *]; done) | (simp only [go_sem, *]; omega)) only [go_sem, isE, isO, stpO, notIn, St.bare, Bool.false_and, Bool.true_and, Bool.and_true, Bool.not_true, Bool.not_false, Int.reduceToNat, Nat.reduceBEq, Nat.reduceEqDiff, Nat.reduceAdd, Nat.reduceMul, Nat.reduceLeDiff, Nat.reduceLT, Nat.reduceSub, ↓reduceIte, reduceCtorEq, ha, hb, eachA_length, agEq_cells, cellsI_isI]; (repeat (refine And.intro (by first | assumption | omega | decide | (simp; done) | (simp; omega)) ?_)); first | rfl | exact ⟨rfl, rfl⟩); simp only [St.put]; refine hKq _ ?_; clear hKq Kq)
  refine evR_step fun Kq hKq => ?_; refine evO_guard (gb := ?_) (v0 := ?_) rfl ?_ ?_ ?_; rotate_left 1; (· intro K3 h3; simp (maxSteps := 4000000) (disch := first | assumption | omega | (simp only [go_sem, *]; done) | (simp only [go_sem, *]; omega)) only [go_sem, isE, isO, stpO, notIn, St.bare, Bool.false_and, Bool.true_and, Bool.and_true, Bool.not_true, Bool.not_false, Int.reduceToNat, Nat.reduceBEq, Nat.reduceEqDiff, Nat.reduceAdd, Nat.reduceMul, Nat.reduceLeDiff, Nat.reduceLT, Nat.reduceSub, ↓reduceIte, reduceCtorEq, ha, hb, eachA_length, agEq_cells, cellsI_isI]; exact h3); rotate_left 1
  · intro hgt; (try simp only [decide_eq_true_eq, decide_eq_false_iff_not, Bool.not_eq_true', Bool.not_eq_false', Bool.and_eq_true, Bool.or_eq_true, Bool.and_eq_false_iff, Bool.or_eq_false_iff, beq_true, beq_false] at hgt); simp (maxSteps := 4000000) (disch := first | assumption | omega | (simp only [go_sem, *]; done) | (simp only [go_sem, *]; omega)) only [go_sem, isE, isO, stpO, notIn, St.bare, Bool.false_and, Bool.true_and, Bool.and_true, Bool.not_true, Bool.not_false, Int.reduceToNat, Nat.reduceBEq, Nat.reduceEqDiff, Nat.reduceAdd, Nat.reduceMul, Nat.reduceLeDiff, Nat.reduceLT, Nat.reduceSub, ↓reduceIte, reduceCtorEq, ha, hb, eachA_length, agEq_cells, cellsI_isI]; (repeat (refine And.intro (by first | assumption | omega | decide | (simp; done) | (simp; omega)) ?_))
    refine ⟨_, (c21 a b ha hb), ?_⟩
    first | rfl | exact ⟨rfl, rfl⟩
  simp only [St.put]; refine hKq _ ?_; clear hKq Kq
  iterate 2 (refine evR_step fun Kq hKq => ?_; refine evO_guard (gb := ?_) (v0 := ?_) rfl ?_ ?_ ?_; rotate_left 1; (· intro K3 h3; simp (maxSteps := 4000000) (disch := first | assumption | omega | (simp only [go_sem, *]; done) | (simp only [go_sem, *]; omega)) only [go_sem, isE, isO, stpO, notIn, St.bare, Bool.false_and, Bool.true_and, Bool.and_true, Bool.not_true, Bool.not_false, Int.reduceToNat, Nat.reduceBEq, Nat.reduceEqDiff, Nat.reduceAdd, Nat.reduceMul, Nat.reduceLeDiff, Nat.reduceLT, Nat.reduceSub, ↓reduceIte, reduceCtorEq, ha, hb, eachA_length, agEq_cells, cellsI_isI]; exact h3); rotate_left 1; (· intro hgt; (try simp only [decide_eq_true_eq, decide_eq_false_iff_not, Bool.not_eq_true', Bool.not_eq_false', Bool.and_eq_true, Bool.or_eq_true, Bool.and_eq_false_iff, Bool.or_eq_false_iff, beq_true, beq_false] at hgt); simp (maxSteps := 4000000) (disch := first | assumption | omega | (simp only [go_sem, *]; done) | (simp only [go_sem, *]; omega)) only [go_sem, isE, isO, stpO, notIn, St.bare, Bool.false_and, Bool.true_and, Bool.and_true, Bool.not_true, Bool.not_false, Int.reduceToNat, Nat.reduceBEq, Nat.reduceEqDiff, Nat.reduceAdd, Nat.reduceMul, Nat.reduceLeDiff, Nat.reduceLT, Nat.reduceSub, ↓reduceIte, reduceCtorEq, ha, hb, eachA_length, agEq_cells, cellsI_isI]; (repeat (refine And.intro (by first | assumption | omega | decide | (simp; done) | (simp; omega)) ?_)); first | rfl | exact ⟨rfl, rfl⟩); simp only [St.put]; refine hKq _ ?_; clear hKq Kq)
  iterate 2 (refine evR_step fun Kq hKq => ?_; simp (maxSteps := 4000000) (disch := first | assumption | omega | (simp only [go_sem, *]; done) | (simp only [go_sem, *]; omega)) only [go_sem, isE, isO, stpO, notIn, St.bare, Bool.false_and, Bool.true_and, Bool.and_true, Bool.not_true, Bool.not_false, Int.reduceToNat, Nat.reduceBEq, Nat.reduceEqDiff, Nat.reduceAdd, Nat.reduceMul, Nat.reduceLeDiff, Nat.reduceLT, Nat.reduceSub, ↓reduceIte, reduceCtorEq, ha, hb, eachA_length, agEq_cells, cellsI_isI]; (repeat (refine And.intro (by first | assumption | omega | decide | (simp; done) | (simp; omega)) ?_)); refine hKq _ ?_; clear hKq Kq)
  refine evR_nil (hK _ ?_); clear hK K
  simp only [St.norm, thenE, inBlkE, List.filterMap, List.lookup, Option.map, Nat.reduceBEq]
  refine hK2 _ ?_
  refine tr_ret ?_
  (try simp only [thenE, inBlkE])
  simp (maxSteps := 4000000) (disch := first | assumption | omega | (simp only [go_sem, *]; done) | (simp only [go_sem, *]; omega)) only [postA, postO, resV1, fzAll, go_sem, isE, isO, stpO, notIn, St.bare, Bool.false_and, Bool.true_and, Bool.and_true, Bool.not_true, Bool.not_false, Int.reduceToNat, Nat.reduceBEq, Nat.reduceEqDiff, Nat.reduceAdd, Nat.reduceMul, Nat.reduceLeDiff, Nat.reduceLT, Nat.reduceSub, ↓reduceIte, reduceCtorEq, ha, hb, eachA_length, agEq_cells, cellsI_isI]
  all_goals ((simp only [withinA, minusA, zeros16]; cases validA a <;> cases validA b <;> simp <;> exact decide_eq_decide.2 Iff.rfl))

theorem c25 (a : List Int) (ha : a.length = 16) (x y : Int) : CallsA Try.prog 25 [.agg (cellsI a), .int .i64 x, .int .i64 y] (.bool (hasA a x y)) := by
  have hmv := minV_le x y
  have hMv := maxV_ge x y
  refine callsA_of_tr Try.func25 rfl (Nat.le_of_ble_eq_true rfl) ?_
  simp only [Try.results25, envOf, Nat.reduceAdd]
  refine tr_seq fun K1 hK1 => ?_
  refine tr_region [1, 2, 3] rfl rfl fun K hK => ?_
  iterate 2 (refine evR_step fun Kq hKq => ?_; simp (maxSteps := 4000000) (disch := first | assumption | omega | (simp only [go_sem, *]; done) | (simp only [go_sem, *]; omega)) only [go_sem, isE, isO, stpO, notIn, St.bare, Bool.false_and, Bool.true_and, Bool.and_true, Bool.not_true, Bool.not_false, Int.reduceToNat, Nat.reduceBEq, Nat.reduceEqDiff, Nat.reduceAdd, Nat.reduceMul, Nat.reduceLeDiff, Nat.reduceLT, Nat.reduceSub, ↓reduceIte, reduceCtorEq, ha]; (repeat (refine And.intro (by first | assumption | omega | decide | (simp; done) | (simp; omega)) ?_)); refine hKq _ ?_; clear hKq Kq)
  refine evR_nil (hK _ ?_); clear hK K
  simp only [St.norm, thenE, inBlkE, List.filterMap, List.lookup, Option.map, Nat.reduceBEq]
  refine hK1 _ ?_
  refine tr_seq fun K2 hK2 => ?_
  refine tr_region [6] rfl rfl fun K hK => ?_
  iterate 1 (refine evR_step fun Kq hKq => ?_; simp (maxSteps := 4000000) (disch := first | assumption | omega | (simp only [go_sem, *]; done) | (simp only [go_sem, *]; omega)) only [go_sem, isE, isO, stpO, notIn, St.bare, Bool.false_and, Bool.true_and, Bool.and_true, Bool.not_true, Bool.not_false, Int.reduceToNat, Nat.reduceBEq, Nat.reduceEqDiff, Nat.reduceAdd, Nat.reduceMul, Nat.reduceLeDiff, Nat.reduceLT, Nat.reduceSub, ↓reduceIte, reduceCtorEq, ha]; (repeat (refine And.intro (by first | assumption | omega | decide | (simp; done) | (simp; omega)) ?_)); refine hKq _ ?_; clear hKq Kq)
  refine evR_step fun Kq hKq => ?_
  simp (maxSteps := 4000000) (disch := first | assumption | omega | (simp only [go_sem, *]; done) | (simp only [go_sem, *]; omega)) only [go_sem, isE, isO, stpO, notIn, St.bare, Bool.false_and, Bool.true_and, Bool.and_true, Bool.not_true, Bool.not_false, Int.reduceToNat, Nat.reduceBEq, Nat.reduceEqDiff, Nat.reduceAdd, Nat.reduceMul, Nat.reduceLeDiff, Nat.reduceLT, Nat.reduceSub, ↓reduceIte, reduceCtorEq, ha]
  (repeat (refine And.intro (by first | assumption | omega | decide | (simp; done) | (simp; omega)) ?_))
  refine ⟨_, (c13 _ (by assumption)), ?_⟩
  refine hKq _ ?_; clear hKq Kq
  iterate 1 (refine evR_step fun Kq hKq => ?_; simp (maxSteps := 4000000) (disch := first | assumption | omega | (simp only [go_sem, *]; done) | (simp only [go_sem, *]; omega)) only [go_sem, isE, isO, stpO, notIn, St.bare, Bool.false_and, Bool.true_and, Bool.and_true, Bool.not_true, Bool.not_false, Int.reduceToNat, Nat.reduceBEq, Nat.reduceEqDiff, Nat.reduceAdd, Nat.reduceMul, Nat.reduceLeDiff, Nat.reduceLT, Nat.reduceSub, ↓reduceIte, reduceCtorEq, ha]; (repeat (refine And.intro (by first | assumption | omega | decide | (simp; done) | (simp; omega)) ?_)); refine hKq _ ?_; clear hKq Kq)
  iterate 4 (refine evR_step fun Kq hKq => ?_; refine evO_guard (gb := ?_) (v0 := ?_) rfl ?_ ?_ ?_; rotate_left 1; (· intro K3 h3; simp (maxSteps := 4000000) (disch := first | assumption | omega | (simp only [go_sem, *]; done) | (simp only [go_sem, *]; omega)) only [go_sem, isE, isO, stpO, notIn, St.bare, Bool.false_and, Bool.true_and, Bool.and_true, Bool.not_true, Bool.not_false, Int.reduceToNat, Nat.reduceBEq, Nat.reduceEqDiff, Nat.reduceAdd, Nat.reduceMul, Nat.reduceLeDiff, Nat.reduceLT, Nat.reduceSub, ↓reduceIte, reduceCtorEq, ha]; exact h3); rotate_left 1; (· intro hgt; (try simp only [decide_eq_true_eq, decide_eq_false_iff_not, Bool.not_eq_true', Bool.not_eq_false', Bool.and_eq_true, Bool.or_eq_true, Bool.and_eq_false_iff, Bool.or_eq_false_iff, beq_true, beq_false] at hgt); simp (maxSteps := 4000000) (disch := first | assumption | omega | (simp only [go_sem, *]; done) | (simp only [go_sem, *]; omega)) only [go_sem, isE, isO, stpO, notIn, St.bare, Bool.false_and, Bool.true_and, Bool.and_true, Bool.not_true, Bool.not_false, Int.reduceToNat, Nat.reduceBEq, Nat.reduceEqDiff, Nat.reduceAdd, Nat.reduceMul, Nat.reduceLeDiff, Nat.reduceLT, Nat.reduceSub, ↓reduceIte, reduceCtorEq, ha]; (repeat (refine And.intro (by first | assumption | omega | decide | (simp; done) | (simp; omega)) ?_)); first | rfl | exact ⟨rfl, rfl⟩); simp only [St.put]; refine hKq _ ?_; clear hKq Kq)
  iterate 2 (refine evR_step fun Kq hKq => ?_; simp (maxSteps := 4000000) (disch := first | assumption | omega | (simp only [go_sem, *]; done) | (simp only [go_sem, *]; omega)) only [go_sem, isE, isO, stpO, notIn, St.bare, Bool.false_and, Bool.true_and, Bool.and_true, Bool.not_true, Bool.not_false, Int.reduceToNat, Nat.reduceBEq, Nat.reduceEqDiff, Nat.reduceAdd, Nat.reduceMul, Nat.reduceLeDiff, Nat.reduceLT, Nat.reduceSub, ↓reduceIte, reduceCtorEq, ha]; (repeat (refine And.intro (by first | assumption | omega | decide | (simp; done) | (simp; omega)) ?_)); refine hKq _ ?_; clear hKq Kq)
  iterate 4 (refine evR_step fun Kq hKq => ?_; refine evO_guard (gb := ?_) (v0 := ?_) rfl ?_ ?_ ?_; rotate_left 1; (· intro K3 h3; simp (maxSteps := 4000000) (disch := first | assumption | omega | (simp only [go_sem, *]; done) | (simp only [go_sem, *]; omega)) only [go_sem, isE, isO, stpO, notIn, St.bare, Bool.false_and, Bool.true_and, Bool.and_true, Bool.not_true, Bool.not_false, Int.reduceToNat, Nat.reduceBEq, Nat.reduceEqDiff, Nat.reduceAdd, Nat.reduceMul, Nat.reduceLeDiff, Nat.reduceLT, Nat.reduceSub, ↓reduceIte, reduceCtorEq, ha]; exact h3); rotate_left 1; (· intro hgt; (try simp only [decide_eq_true_eq, decide_eq_false_iff_not, Bool.not_eq_true', Bool.not_eq_false', Bool.and_eq_true, Bool.or_eq_true, Bool.and_eq_false_iff, Bool.or_eq_false_iff, beq_true, beq_false] at hgt); simp (maxSteps := 4000000) (disch := first | assumption | omega | (simp only [go_sem, *]; done) | (simp only [go_sem, *]; omega)) only [go_sem, isE, isO, stpO, notIn, St.bare, Bool.false_and, Bool.true_and, Bool.and_true, Bool.not_true, Bool.not_false, Int.reduceToNat, Nat.reduceBEq, Nat.reduceEqDiff, Nat.reduceAdd, Nat.reduceMul, Nat.reduceLeDiff, Nat.reduceLT, Nat.reduceSub, ↓reduceIte, reduceCtorEq, ha]; (repeat (refine And.intro (by first | assumption | omega | decide | (simp; done) | (simp; omega)) ?_)); first | rfl | exact ⟨rfl, rfl⟩); simp only [St.put]; refine hKq _ ?_; clear hKq Kq)
  iterate 2 (refine evR_step fun Kq hKq => ?_; simp (maxSteps := 4000000) (disch := first | assumption | omega | (simp only [go_sem, *]; done) | (simp only [go_sem, *]; omega)) only [go_sem, isE, isO, stpO, notIn, St.bare, Bool.false_and, Bool.true_and, Bool.and_true, Bool.not_true, Bool.not_false, Int.reduceToNat, Nat.reduceBEq, Nat.reduceEqDiff, Nat.reduceAdd, Nat.reduceMul, Nat.reduceLeDiff, Nat.reduceLT, Nat.reduceSub, ↓reduceIte, reduceCtorEq, ha]; (repeat (refine And.intro (by first | assumption | omega | decide | (simp; done) | (simp; omega)) ?_)); refine hKq _ ?_; clear hKq Kq)
  iterate 7 (refine evR_step fun Kq hKq => ?_; refine evO_guard (gb := ?_) (v0 := ?_) rfl ?_ ?_ ?_; rotate_left 1; (· intro K3 h3; simp (maxSteps := 4000000) (disch := first | assumption | omega | (simp only [go_sem, *]; done) | (simp only [go_sem, *]; omega)) only [go_sem, isE, isO, stpO, notIn, St.bare, Bool.false_and, Bool.true_and, Bool.and_true, Bool.not_true, Bool.not_false, Int.reduceToNat, Nat.reduceBEq, Nat.reduceEqDiff, Nat.reduceAdd, Nat.reduceMul, Nat.reduceLeDiff, Nat.reduceLT, Nat.reduceSub, ↓reduceIte, reduceCtorEq, ha]; exact h3); rotate_left 1; (· intro hgt; (try simp only [decide_eq_true_eq, decide_eq_false_iff_not, Bool.not_eq_true', Bool.not_eq_false', Bool.and_eq_true, Bool.or_eq_true, Bool.and_eq_false_iff, Bool.or_eq_false_iff, beq_true, beq_false] at hgt); simp (maxSteps := 4000000) (disch := first | assumption | omega | (simp only [go_sem, *]; done) | (simp only [go_sem, *]; omega)) only [go_sem, isE, isO, stpO, notIn, St.bare, Bool.false_and, Bool.true_and, Bool.and_true, Bool.not_true, Bool.not_false, Int.reduceToNat, Nat.reduceBEq, Nat.reduceEqDiff, Nat.reduceAdd, Nat.reduceMul, Nat.reduceLeDiff, Nat.reduceLT, Nat.reduceSub, ↓reduceIte, reduceCtorEq, ha]; (repeat (refine And.intro (by first | assumption | omega | decide | (simp; done) | (simp; omega)) ?_)); first | rfl | exact ⟨rfl, rfl⟩); simp only [St.put]; refine hKq _ ?_; clear hKq Kq)
  iterate 2 (refine evR_step fun Kq hKq => ?_; simp (maxSteps := 4000000) (disch := first | assumption | omega | (simp only [go_sem, *]; done) | (simp only [go_sem, *]; omega)) only [go_sem, isE, isO, stpO, notIn, St.bare, Bool.false_and, Bool.true_and, Bool.and_true, Bool.not_true, Bool.not_false, Int.reduceToNat, Nat.reduceBEq, Nat.reduceEqDiff, Nat.reduceAdd, Nat.reduceMul, Nat.reduceLeDiff, Nat.reduceLT, Nat.reduceSub, ↓reduceIte, reduceCtorEq, ha]; (repeat (refine And.intro (by first | assumption | omega | decide | (simp; done) | (simp; omega)) ?_)); refine hKq _ ?_; clear hKq Kq)
  refine evR_nil (hK _ ?_); clear hK K
  simp only [St.norm, thenE, inBlkE, List.filterMap, List.lookup, Option.map, Nat.reduceBEq]
  refine hK2 _ ?_
  refine tr_ret ?_
  (try simp only [thenE, inBlkE])
  simp (maxSteps := 4000000) (disch := first | assumption | omega | (simp only [go_sem, *]; done) | (simp only [go_sem, *]; omega)) only [postA, postO, resV1, fzAll, go_sem, isE, isO, stpO, notIn, St.bare, Bool.false_and, Bool.true_and, Bool.and_true, Bool.not_true, Bool.not_false, Int.reduceToNat, Nat.reduceBEq, Nat.reduceEqDiff, Nat.reduceAdd, Nat.reduceMul, Nat.reduceLeDiff, Nat.reduceLT, Nat.reduceSub, ↓reduceIte, reduceCtorEq, ha]
  all_goals ((simp [hasA, cellB, Bool.and_assoc]))

end Go.Proofs.Ytpaielaniekdbaa

