import Derived.Test.YtpaielaniekdbaaF21
import Derived.Test.YtpaielaniekdbaaP21
import Derived.Test.YtpaielaniekdbaaC21a
import Derived.Test.YtpaielaniekdbaaC21b
namespace Go.Proofs.Ytpaielaniekdbaa
open Go.RowKit
set_option linter.unusedVariables false
set_option linter.unusedSimpArgs false
attribute [local go_sem] Nat.zero_add Nat.add_zero Nat.mul_one eq_self ne_eq not_true_eq_false not_false_eq_true decide_true decide_false decide_not Bool.false_eq_true List.filter_cons List.filter_nil true_and and_true beq_false beq_true Bool.not_true Bool.not_false Bool.and_true Bool.true_and Option.getD_some Option.getD_none imp_self implies_true Int.toNat_natCast List.cons_append List.nil_append List.map_cons List.map_nil List.length_cons List.length_nil List.getD_cons_zero List.getD_cons_succ List.drop_zero List.drop_succ_cons List.take_succ_cons List.take_zero
attribute [local go_sem] evO evDO isEff stp St.get St.slot St.put List.lookup un unL ofVal gof nth pickV pkB_false pkB_true binV unV loadV idxV fldV partV buildV fillV lenV sliV appV appR rowsV winV V.parts V.okp V.sc Mem.look_cons Mem.look_nil V.cl V.clL AObj.clo fzAll exps St.fz Mem.fz V.fz V.fzL AObj.fz arT_23 arT_24 arT_25 arT_26 arT_27 arT_32 arT_41 arT_49 arT_9 boolT_23 boolT_3 boolT_4 boolT_43 flatT_23 flatT_3 flatT_4 flatT_43 intT_3 intT_5 intT_61 intT_69 intT_71 lay_23 lay_26 lay_27 lay_29 lay_3 okF_10 okF_11 okF_12 okF_13 okF_14 okF_15 okF_16 okF_17 okF_18 okF_19 okF_20 okF_21 okF_22 okF_23 okF_24 okF_25 okF_26 okF_27 okF_28 okF_29 okF_3 okF_30 okF_31 okF_32 okF_33 okF_34 okF_35 okF_36 okF_37 okF_38 okF_39 okF_4 okF_40 okF_41 okF_42 okF_43 okF_44 okF_45 okF_46 okF_47 okF_48 okF_49 okF_5 okF_50 okF_51 okF_52 okF_53 okF_54 okF_55 okF_56 okF_57 okF_58 okF_59 okF_6 okF_60 okF_61 okF_62 okF_7 okF_8 okF_9 plT_23 plT_26 plT_29 slT_23 slT_24 slT_25 slT_26 slT_27 slT_32 slT_41 slT_49 stT_29_0 stT_29_1 zeroT_23 zeroT_26 zeroT_27 zeroT_29 zeroT_3
attribute [local go_sem] cellsI_fzL cellsI_uptoL List.zip_cons_cons List.zip_nil_left List.zip_nil_right cellsI_length cellsI_sc cellsI_cl cellsI_rows cellsI_take cellsI_dropD cellsI_set cellsI_full encI_length encI_getD List.length_set List.length_replicate List.all_cons List.all_nil outA_length eachA_length outM_length getD_set_same List.set_set spl_nil0 spl_cons0 spl_succ encP_length encP_getD
theorem c50 (l : List Pl) (p : Pl) (hv : validP l = true) (hp : onMap p = true) : CallsA Try.prog 50 [.sl 2 (encP l), .agg [.int .i64 p.x, .int .i64 p.y]] (.int .i64 (sideP l p)) := by
  obtain ⟨hl1, hl2, hlm⟩ := validP_len hv
  have hw0 : IntKind.i64.wrap ((l.length : Int) - 1) = (l.length : Int) - 1 := w64 (by omega)
  have hn0 : ((l.length : Int) - 1).toNat = l.length - 1 := by omega
  have hlast : onMap (l.getD (l.length - 1) ⟨0, 0⟩) = true := hlm _ (getD_mem (by omega))
  refine callsA_of_tr Try.func50 rfl (Nat.le_of_ble_eq_true rfl) ?_
  simp only [Try.results50, envOf, Nat.reduceAdd]
  refine tr_seq fun K1 hK1 => ?_
  refine tr_region [0, 3] rfl rfl fun K hK => ?_
  iterate 2 (refine evR_step fun Kq hKq => ?_; simp (maxSteps := 4000000) (disch := first | assumption | omega | (simp only [go_sem, *]; done) | (simp only [go_sem, *]; omega)) only [go_sem, isE, notIn, St.bare, Bool.false_and, Bool.true_and, Bool.and_true, Bool.not_true, Bool.not_false, Int.reduceToNat, Nat.reduceBEq, Nat.reduceEqDiff, Nat.reduceAdd, Nat.reduceMul, Nat.reduceLeDiff, Nat.reduceLT, Nat.reduceSub, ↓reduceIte, reduceCtorEq, hw0, hn0]; (repeat (refine And.intro (by first | assumption | omega | decide | (simp; done) | (simp; omega)) ?_)); refine hKq _ ?_; clear hKq Kq)
  refine evR_nil (hK _ ?_); clear hK K
  simp only [St.norm, thenE, inBlkE, List.filterMap, List.lookup, Option.map, Nat.reduceBEq]
  refine hK1 _ ?_
  refine tr_seq fun K2 hK2 => ?_
  refine tr_region [0, 3, 5] rfl rfl fun K hK => ?_
  iterate 1 (refine evR_step fun Kq hKq => ?_; simp (maxSteps := 4000000) (disch := first | assumption | omega | (simp only [go_sem, *]; done) | (simp only [go_sem, *]; omega)) only [go_sem, isE, notIn, St.bare, Bool.false_and, Bool.true_and, Bool.and_true, Bool.not_true, Bool.not_false, Int.reduceToNat, Nat.reduceBEq, Nat.reduceEqDiff, Nat.reduceAdd, Nat.reduceMul, Nat.reduceLeDiff, Nat.reduceLT, Nat.reduceSub, ↓reduceIte, reduceCtorEq, hw0, hn0]; (repeat (refine And.intro (by first | assumption | omega | decide | (simp; done) | (simp; omega)) ?_)); refine hKq _ ?_; clear hKq Kq)
  refine evR_nil (hK _ ?_); clear hK K
  simp only [St.norm, thenE, inBlkE, List.filterMap, List.lookup, Option.map, Nat.reduceBEq]
  refine hK2 _ ?_
  refine tr_seq fun K3 hK3 => ?_
  refine tr_region [0, 3, 5, 6] rfl rfl fun K hK => ?_
  iterate 8 (refine evR_step fun Kq hKq => ?_; simp (maxSteps := 4000000) (disch := first | assumption | omega | (simp only [go_sem, *]; done) | (simp only [go_sem, *]; omega)) only [go_sem, isE, notIn, St.bare, Bool.false_and, Bool.true_and, Bool.and_true, Bool.not_true, Bool.not_false, Int.reduceToNat, Nat.reduceBEq, Nat.reduceEqDiff, Nat.reduceAdd, Nat.reduceMul, Nat.reduceLeDiff, Nat.reduceLT, Nat.reduceSub, ↓reduceIte, reduceCtorEq, hw0, hn0]; (repeat (refine And.intro (by first | assumption | omega | decide | (simp; done) | (simp; omega)) ?_)); refine hKq _ ?_; clear hKq Kq)
  refine evR_nil (hK _ ?_); clear hK K
  simp only [St.norm, thenE, inBlkE, List.filterMap, List.lookup, Option.map, Nat.reduceBEq]
  refine hK3 _ ?_
  refine tr_seq fun K4 hK4 => ?_
  refine tr_seq fun K5 hK5 => ?_
  refine tr_region [3, 5, 6, 17, 18, 19] rfl rfl fun K hK => ?_
  iterate 3 (refine evR_step fun Kq hKq => ?_; simp (maxSteps := 4000000) (disch := first | assumption | omega | (simp only [go_sem, *]; done) | (simp only [go_sem, *]; omega)) only [go_sem, isE, notIn, St.bare, Bool.false_and, Bool.true_and, Bool.and_true, Bool.not_true, Bool.not_false, Int.reduceToNat, Nat.reduceBEq, Nat.reduceEqDiff, Nat.reduceAdd, Nat.reduceMul, Nat.reduceLeDiff, Nat.reduceLT, Nat.reduceSub, ↓reduceIte, reduceCtorEq, hw0, hn0]; (repeat (refine And.intro (by first | assumption | omega | decide | (simp; done) | (simp; omega)) ?_)); refine hKq _ ?_; clear hKq Kq)
  refine evR_nil (hK _ ?_); clear hK K
  simp only [St.norm, thenE, inBlkE, List.filterMap, List.lookup, Option.map, Nat.reduceBEq]
  refine hK5 _ ?_
  refine tr_block ?_
  -- loop 1: live [3, 5, 6, 17, 18, 19]
  refine tr_loopW (fun m σ => ∃ (i : Nat) (a : Pl) (out : Int), i + m = l.length ∧ onMap a = true ∧ (out = 1 ∨ out = -1) ∧ sideGo p a out (l.drop i) = sideP l p ∧ σ = ⟨[(3, .ptr 0 0), (5, .int .i64 out), (6, .ptr 1 0), (17, .sl 2 (encP l)), (18, .int .i64 l.length), (19, .int .i64 i)], [(1, .cells [.int .i64 a.x, .int .i64 a.y]), (0, .cells [.int .i64 p.x, .int .i64 p.y])], 2⟩) (l.length) ?_ ?_
  · exact ⟨_, Wk.refl _, 0, l.getD (l.length - 1) ⟨0, 0⟩, -1, by omega, hlast, .inr rfl, rfl, rfl⟩
  · rintro m σ ⟨i, a, out, hi, hao, hout, hgo, rfl⟩ KL1 hKL1
    refine tr_seq fun K6 hK6 => ?_
    refine tr_region [3, 5, 6, 17, 18, 19, 20] rfl rfl fun K hK => ?_
    iterate 1 (refine evR_step fun Kq hKq => ?_; simp (maxSteps := 4000000) (disch := first | assumption | omega | (simp only [go_sem, *]; done) | (simp only [go_sem, *]; omega)) only [go_sem, isE, notIn, St.bare, Bool.false_and, Bool.true_and, Bool.and_true, Bool.not_true, Bool.not_false, Int.reduceToNat, Nat.reduceBEq, Nat.reduceEqDiff, Nat.reduceAdd, Nat.reduceMul, Nat.reduceLeDiff, Nat.reduceLT, Nat.reduceSub, ↓reduceIte, reduceCtorEq, hw0, hn0]; (repeat (refine And.intro (by first | assumption | omega | decide | (simp; done) | (simp; omega)) ?_)); refine hKq _ ?_; clear hKq Kq)
    refine evR_nil (hK _ ?_); clear hK K
    simp only [St.norm, thenE, inBlkE, List.filterMap, List.lookup, Option.map, Nat.reduceBEq]
    refine hK6 _ ?_
    refine tr_seq fun K7 hK7 => ?_
    refine tr_cond rfl (fun ht1 => ?_) (fun ht1 => ?_)
    · (try simp only [decide_eq_true_eq, decide_eq_false_iff_not, Bool.not_eq_true', Bool.not_eq_false', Bool.and_eq_true, Bool.or_eq_true, Bool.and_eq_false_iff, Bool.or_eq_false_iff, beq_true, beq_false] at ht1)
      have hil : i < l.length := by omega
      have hbo : onMap (l.getD i ⟨0, 0⟩) = true := hlm _ (getD_mem hil)
      refine tr_skip ?_
      (try simp only [thenE, inBlkE])
      refine hK7 _ ?_
      refine tr_seq fun K8 hK8 => ?_
      refine tr_block ?_
      refine tr_seq fun K9 hK9 => ?_
      refine tr_region [3, 5, 6, 8, 17, 18, 19] rfl rfl fun K hK => ?_
      iterate 4 (refine evR_step fun Kq hKq => ?_; simp (maxSteps := 4000000) (disch := first | assumption | omega | (simp only [go_sem, *]; done) | (simp only [go_sem, *]; omega)) only [go_sem, isE, notIn, St.bare, Bool.false_and, Bool.true_and, Bool.and_true, Bool.not_true, Bool.not_false, Int.reduceToNat, Nat.reduceBEq, Nat.reduceEqDiff, Nat.reduceAdd, Nat.reduceMul, Nat.reduceLeDiff, Nat.reduceLT, Nat.reduceSub, ↓reduceIte, reduceCtorEq, hw0, hn0]; (repeat (refine And.intro (by first | assumption | omega | decide | (simp; done) | (simp; omega)) ?_)); refine hKq _ ?_; clear hKq Kq)
      refine evR_nil (hK _ ?_); clear hK K
      simp only [St.norm, thenE, inBlkE, List.filterMap, List.lookup, Option.map, Nat.reduceBEq]
      refine hK9 _ ?_
      refine tr_seq fun K10 hK10 => ?_
      refine tr_region [3, 5, 6, 8, 9, 17, 18, 19] rfl rfl fun K hK => ?_
      iterate 3 (refine evR_step fun Kq hKq => ?_; simp (maxSteps := 4000000) (disch := first | assumption | omega | (simp only [go_sem, *]; done) | (simp only [go_sem, *]; omega)) only [go_sem, isE, notIn, St.bare, Bool.false_and, Bool.true_and, Bool.and_true, Bool.not_true, Bool.not_false, Int.reduceToNat, Nat.reduceBEq, Nat.reduceEqDiff, Nat.reduceAdd, Nat.reduceMul, Nat.reduceLeDiff, Nat.reduceLT, Nat.reduceSub, ↓reduceIte, reduceCtorEq, hw0, hn0]; (repeat (refine And.intro (by first | assumption | omega | decide | (simp; done) | (simp; omega)) ?_)); refine hKq _ ?_; clear hKq Kq)
      refine evR_step fun Kq hKq => ?_
      simp (maxSteps := 4000000) (disch := first | assumption | omega | (simp only [go_sem, *]; done) | (simp only [go_sem, *]; omega)) only [go_sem, isE, notIn, St.bare, Bool.false_and, Bool.true_and, Bool.and_true, Bool.not_true, Bool.not_false, Int.reduceToNat, Nat.reduceBEq, Nat.reduceEqDiff, Nat.reduceAdd, Nat.reduceMul, Nat.reduceLeDiff, Nat.reduceLT, Nat.reduceSub, ↓reduceIte, reduceCtorEq, hw0, hn0]
      (repeat (refine And.intro (by first | assumption | omega | decide | (simp; done) | (simp; omega)) ?_))
      refine ⟨_, (c61 a (l.getD i ⟨0, 0⟩) p hao hbo hp), ?_⟩
      refine hKq _ ?_; clear hKq Kq
      iterate 1 (refine evR_step fun Kq hKq => ?_; simp (maxSteps := 4000000) (disch := first | assumption | omega | (simp only [go_sem, *]; done) | (simp only [go_sem, *]; omega)) only [go_sem, isE, notIn, St.bare, Bool.false_and, Bool.true_and, Bool.and_true, Bool.not_true, Bool.not_false, Int.reduceToNat, Nat.reduceBEq, Nat.reduceEqDiff, Nat.reduceAdd, Nat.reduceMul, Nat.reduceLeDiff, Nat.reduceLT, Nat.reduceSub, ↓reduceIte, reduceCtorEq, hw0, hn0]; (repeat (refine And.intro (by first | assumption | omega | decide | (simp; done) | (simp; omega)) ?_)); refine hKq _ ?_; clear hKq Kq)
      refine evR_nil (hK _ ?_); clear hK K
      simp only [St.norm, thenE, inBlkE, List.filterMap, List.lookup, Option.map, Nat.reduceBEq]
      refine hK10 _ ?_
      refine tr_seq fun K11 hK11 => ?_
      refine tr_region [3, 5, 6, 8, 9, 10, 17, 18, 19] rfl rfl fun K hK => ?_
      iterate 9 (refine evR_step fun Kq hKq => ?_; simp (maxSteps := 4000000) (disch := first | assumption | omega | (simp only [go_sem, *]; done) | (simp only [go_sem, *]; omega)) only [go_sem, isE, notIn, St.bare, Bool.false_and, Bool.true_and, Bool.and_true, Bool.not_true, Bool.not_false, Int.reduceToNat, Nat.reduceBEq, Nat.reduceEqDiff, Nat.reduceAdd, Nat.reduceMul, Nat.reduceLeDiff, Nat.reduceLT, Nat.reduceSub, ↓reduceIte, reduceCtorEq, hw0, hn0]; (repeat (refine And.intro (by first | assumption | omega | decide | (simp; done) | (simp; omega)) ?_)); refine hKq _ ?_; clear hKq Kq)
      iterate 8 (refine evR_step fun Kq hKq => ?_; refine evO_guard (gb := ?_) (v0 := ?_) rfl ?_ ?_ ?_; rotate_left 1; (· intro K3 h3; simp (maxSteps := 4000000) (disch := first | assumption | omega | (simp only [go_sem, *]; done) | (simp only [go_sem, *]; omega)) only [go_sem, isE, notIn, St.bare, Bool.false_and, Bool.true_and, Bool.and_true, Bool.not_true, Bool.not_false, Int.reduceToNat, Nat.reduceBEq, Nat.reduceEqDiff, Nat.reduceAdd, Nat.reduceMul, Nat.reduceLeDiff, Nat.reduceLT, Nat.reduceSub, ↓reduceIte, reduceCtorEq, hw0, hn0]; exact h3); rotate_left 1; (· intro hgt; (try simp only [decide_eq_true_eq, decide_eq_false_iff_not, Bool.not_eq_true', Bool.not_eq_false', Bool.and_eq_true, Bool.or_eq_true, Bool.and_eq_false_iff, Bool.or_eq_false_iff, beq_true, beq_false] at hgt); simp (maxSteps := 4000000) (disch := first | assumption | omega | (simp only [go_sem, *]; done) | (simp only [go_sem, *]; omega)) only [go_sem, isE, notIn, St.bare, Bool.false_and, Bool.true_and, Bool.and_true, Bool.not_true, Bool.not_false, Int.reduceToNat, Nat.reduceBEq, Nat.reduceEqDiff, Nat.reduceAdd, Nat.reduceMul, Nat.reduceLeDiff, Nat.reduceLT, Nat.reduceSub, ↓reduceIte, reduceCtorEq, hw0, hn0]; (repeat (refine And.intro (by first | assumption | omega | decide | (simp; done) | (simp; omega)) ?_)); first | rfl | exact ⟨rfl, rfl⟩); simp only [St.put]; refine hKq _ ?_; clear hKq Kq)
      iterate 2 (refine evR_step fun Kq hKq => ?_; simp (maxSteps := 4000000) (disch := first | assumption | omega | (simp only [go_sem, *]; done) | (simp only [go_sem, *]; omega)) only [go_sem, isE, notIn, St.bare, Bool.false_and, Bool.true_and, Bool.and_true, Bool.not_true, Bool.not_false, Int.reduceToNat, Nat.reduceBEq, Nat.reduceEqDiff, Nat.reduceAdd, Nat.reduceMul, Nat.reduceLeDiff, Nat.reduceLT, Nat.reduceSub, ↓reduceIte, reduceCtorEq, hw0, hn0]; (repeat (refine And.intro (by first | assumption | omega | decide | (simp; done) | (simp; omega)) ?_)); refine hKq _ ?_; clear hKq Kq)
      iterate 8 (refine evR_step fun Kq hKq => ?_; refine evO_guard (gb := ?_) (v0 := ?_) rfl ?_ ?_ ?_; rotate_left 1; (· intro K3 h3; simp (maxSteps := 4000000) (disch := first | assumption | omega | (simp only [go_sem, *]; done) | (simp only [go_sem, *]; omega)) only [go_sem, isE, notIn, St.bare, Bool.false_and, Bool.true_and, Bool.and_true, Bool.not_true, Bool.not_false, Int.reduceToNat, Nat.reduceBEq, Nat.reduceEqDiff, Nat.reduceAdd, Nat.reduceMul, Nat.reduceLeDiff, Nat.reduceLT, Nat.reduceSub, ↓reduceIte, reduceCtorEq, hw0, hn0]; exact h3); rotate_left 1; (· intro hgt; (try simp only [decide_eq_true_eq, decide_eq_false_iff_not, Bool.not_eq_true', Bool.not_eq_false', Bool.and_eq_true, Bool.or_eq_true, Bool.and_eq_false_iff, Bool.or_eq_false_iff, beq_true, beq_false] at hgt); simp (maxSteps := 4000000) (disch := first | assumption | omega | (simp only [go_sem, *]; done) | (simp only [go_sem, *]; omega)) only [go_sem, isE, notIn, St.bare, Bool.false_and, Bool.true_and, Bool.and_true, Bool.not_true, Bool.not_false, Int.reduceToNat, Nat.reduceBEq, Nat.reduceEqDiff, Nat.reduceAdd, Nat.reduceMul, Nat.reduceLeDiff, Nat.reduceLT, Nat.reduceSub, ↓reduceIte, reduceCtorEq, hw0, hn0]; (repeat (refine And.intro (by first | assumption | omega | decide | (simp; done) | (simp; omega)) ?_)); first | rfl | exact ⟨rfl, rfl⟩); simp only [St.put]; refine hKq _ ?_; clear hKq Kq)
      iterate 2 (refine evR_step fun Kq hKq => ?_; simp (maxSteps := 4000000) (disch := first | assumption | omega | (simp only [go_sem, *]; done) | (simp only [go_sem, *]; omega)) only [go_sem, isE, notIn, St.bare, Bool.false_and, Bool.true_and, Bool.and_true, Bool.not_true, Bool.not_false, Int.reduceToNat, Nat.reduceBEq, Nat.reduceEqDiff, Nat.reduceAdd, Nat.reduceMul, Nat.reduceLeDiff, Nat.reduceLT, Nat.reduceSub, ↓reduceIte, reduceCtorEq, hw0, hn0]; (repeat (refine And.intro (by first | assumption | omega | decide | (simp; done) | (simp; omega)) ?_)); refine hKq _ ?_; clear hKq Kq)
      iterate 8 (refine evR_step fun Kq hKq => ?_; refine evO_guard (gb := ?_) (v0 := ?_) rfl ?_ ?_ ?_; rotate_left 1; (· intro K3 h3; simp (maxSteps := 4000000) (disch := first | assumption | omega | (simp only [go_sem, *]; done) | (simp only [go_sem, *]; omega)) only [go_sem, isE, notIn, St.bare, Bool.false_and, Bool.true_and, Bool.and_true, Bool.not_true, Bool.not_false, Int.reduceToNat, Nat.reduceBEq, Nat.reduceEqDiff, Nat.reduceAdd, Nat.reduceMul, Nat.reduceLeDiff, Nat.reduceLT, Nat.reduceSub, ↓reduceIte, reduceCtorEq, hw0, hn0]; exact h3); rotate_left 1; (· intro hgt; (try simp only [decide_eq_true_eq, decide_eq_false_iff_not, Bool.not_eq_true', Bool.not_eq_false', Bool.and_eq_true, Bool.or_eq_true, Bool.and_eq_false_iff, Bool.or_eq_false_iff, beq_true, beq_false] at hgt); simp (maxSteps := 4000000) (disch := first | assumption | omega | (simp only [go_sem, *]; done) | (simp only [go_sem, *]; omega)) only [go_sem, isE, notIn, St.bare, Bool.false_and, Bool.true_and, Bool.and_true, Bool.not_true, Bool.not_false, Int.reduceToNat, Nat.reduceBEq, Nat.reduceEqDiff, Nat.reduceAdd, Nat.reduceMul, Nat.reduceLeDiff, Nat.reduceLT, Nat.reduceSub, ↓reduceIte, reduceCtorEq, hw0, hn0]; (repeat (refine And.intro (by first | assumption | omega | decide | (simp; done) | (simp; omega)) ?_)); first | rfl | exact ⟨rfl, rfl⟩); simp only [St.put]; refine hKq _ ?_; clear hKq Kq)
      iterate 2 (refine evR_step fun Kq hKq => ?_; simp (maxSteps := 4000000) (disch := first | assumption | omega | (simp only [go_sem, *]; done) | (simp only [go_sem, *]; omega)) only [go_sem, isE, notIn, St.bare, Bool.false_and, Bool.true_and, Bool.and_true, Bool.not_true, Bool.not_false, Int.reduceToNat, Nat.reduceBEq, Nat.reduceEqDiff, Nat.reduceAdd, Nat.reduceMul, Nat.reduceLeDiff, Nat.reduceLT, Nat.reduceSub, ↓reduceIte, reduceCtorEq, hw0, hn0]; (repeat (refine And.intro (by first | assumption | omega | decide | (simp; done) | (simp; omega)) ?_)); refine hKq _ ?_; clear hKq Kq)
      refine evR_nil (hK _ ?_); clear hK K
      simp only [St.norm, thenE, inBlkE, List.filterMap, List.lookup, Option.map, Nat.reduceBEq]
      refine hK11 _ ?_
      refine tr_seq fun K12 hK12 => ?_
      refine tr_seq fun K13 hK13 => ?_
      refine tr_region [3, 5, 6, 8, 9, 17, 18, 19, 69] rfl rfl fun K hK => ?_
      iterate 3 (refine evR_step fun Kq hKq => ?_; simp (maxSteps := 4000000) (disch := first | assumption | omega | (simp only [go_sem, *]; done) | (simp only [go_sem, *]; omega)) only [go_sem, isE, notIn, St.bare, Bool.false_and, Bool.true_and, Bool.and_true, Bool.not_true, Bool.not_false, Int.reduceToNat, Nat.reduceBEq, Nat.reduceEqDiff, Nat.reduceAdd, Nat.reduceMul, Nat.reduceLeDiff, Nat.reduceLT, Nat.reduceSub, ↓reduceIte, reduceCtorEq, hw0, hn0]; (repeat (refine And.intro (by first | assumption | omega | decide | (simp; done) | (simp; omega)) ?_)); refine hKq _ ?_; clear hKq Kq)
      iterate 1 (refine evR_step fun Kq hKq => ?_; refine evO_guard (gb := ?_) (v0 := ?_) rfl ?_ ?_ ?_; rotate_left 1; (· intro K3 h3; simp (maxSteps := 4000000) (disch := first | assumption | omega | (simp only [go_sem, *]; done) | (simp only [go_sem, *]; omega)) only [go_sem, isE, notIn, St.bare, Bool.false_and, Bool.true_and, Bool.and_true, Bool.not_true, Bool.not_false, Int.reduceToNat, Nat.reduceBEq, Nat.reduceEqDiff, Nat.reduceAdd, Nat.reduceMul, Nat.reduceLeDiff, Nat.reduceLT, Nat.reduceSub, ↓reduceIte, reduceCtorEq, hw0, hn0]; exact h3); rotate_left 1; (· intro hgt; (try simp only [decide_eq_true_eq, decide_eq_false_iff_not, Bool.not_eq_true', Bool.not_eq_false', Bool.and_eq_true, Bool.or_eq_true, Bool.and_eq_false_iff, Bool.or_eq_false_iff, beq_true, beq_false] at hgt); simp (maxSteps := 4000000) (disch := first | assumption | omega | (simp only [go_sem, *]; done) | (simp only [go_sem, *]; omega)) only [go_sem, isE, notIn, St.bare, Bool.false_and, Bool.true_and, Bool.and_true, Bool.not_true, Bool.not_false, Int.reduceToNat, Nat.reduceBEq, Nat.reduceEqDiff, Nat.reduceAdd, Nat.reduceMul, Nat.reduceLeDiff, Nat.reduceLT, Nat.reduceSub, ↓reduceIte, reduceCtorEq, hw0, hn0]; (repeat (refine And.intro (by first | assumption | omega | decide | (simp; done) | (simp; omega)) ?_)); first | rfl | exact ⟨rfl, rfl⟩); simp only [St.put]; refine hKq _ ?_; clear hKq Kq)
      iterate 1 (refine evR_step fun Kq hKq => ?_; simp (maxSteps := 4000000) (disch := first | assumption | omega | (simp only [go_sem, *]; done) | (simp only [go_sem, *]; omega)) only [go_sem, isE, notIn, St.bare, Bool.false_and, Bool.true_and, Bool.and_true, Bool.not_true, Bool.not_false, Int.reduceToNat, Nat.reduceBEq, Nat.reduceEqDiff, Nat.reduceAdd, Nat.reduceMul, Nat.reduceLeDiff, Nat.reduceLT, Nat.reduceSub, ↓reduceIte, reduceCtorEq, hw0, hn0]; (repeat (refine And.intro (by first | assumption | omega | decide | (simp; done) | (simp; omega)) ?_)); refine hKq _ ?_; clear hKq Kq)
      refine evR_nil (hK _ ?_); clear hK K
      simp only [St.norm, thenE, inBlkE, List.filterMap, List.lookup, Option.map, Nat.reduceBEq]
      refine hK13 _ ?_
      refine tr_cond rfl (fun ht2 => ?_) (fun ht2 => ?_)
      · (try simp only [decide_eq_true_eq, decide_eq_false_iff_not, Bool.not_eq_true', Bool.not_eq_false', Bool.and_eq_true, Bool.or_eq_true, Bool.and_eq_false_iff, Bool.or_eq_false_iff, beq_true, beq_false] at ht2)
        refine tr_seq fun K14 hK14 => ?_
        refine tr_region [4] rfl rfl fun K hK => ?_
        iterate 1 (refine evR_step fun Kq hKq => ?_; simp (maxSteps := 4000000) (disch := first | assumption | omega | (simp only [go_sem, *]; done) | (simp only [go_sem, *]; omega)) only [go_sem, isE, notIn, St.bare, Bool.false_and, Bool.true_and, Bool.and_true, Bool.not_true, Bool.not_false, Int.reduceToNat, Nat.reduceBEq, Nat.reduceEqDiff, Nat.reduceAdd, Nat.reduceMul, Nat.reduceLeDiff, Nat.reduceLT, Nat.reduceSub, ↓reduceIte, reduceCtorEq, hw0, hn0]; (repeat (refine And.intro (by first | assumption | omega | decide | (simp; done) | (simp; omega)) ?_)); refine hKq _ ?_; clear hKq Kq)
        refine evR_nil (hK _ ?_); clear hK K
        simp only [St.norm, thenE, inBlkE, List.filterMap, List.lookup, Option.map, Nat.reduceBEq]
        refine hK14 _ ?_
        refine tr_ret ?_
        (try simp only [thenE, inBlkE])
        simp (maxSteps := 4000000) (disch := first | assumption | omega | (simp only [go_sem, *]; done) | (simp only [go_sem, *]; omega)) only [postA, resV1, fzAll, go_sem, isE, notIn, St.bare, Bool.false_and, Bool.true_and, Bool.and_true, Bool.not_true, Bool.not_false, Int.reduceToNat, Nat.reduceBEq, Nat.reduceEqDiff, Nat.reduceAdd, Nat.reduceMul, Nat.reduceLeDiff, Nat.reduceLT, Nat.reduceSub, ↓reduceIte, reduceCtorEq, hw0, hn0]
        all_goals (first | (have hit : hitP a (l.getD i ⟨0, 0⟩) p = true := (by simp only [hitP, nearP, decide_eq_true_eq, decide_eq_false_iff_not, Bool.not_eq_true', Bool.not_eq_false', Bool.and_eq_true, Bool.or_eq_true, Bool.and_eq_false_iff, Bool.or_eq_false_iff, beq_true, beq_false]; omega); rw [← hgo, sideGo_hit hil hit]) | (rw [← hgo, List.drop_length]; rfl))
      · (try simp only [decide_eq_true_eq, decide_eq_false_iff_not, Bool.not_eq_true', Bool.not_eq_false', Bool.and_eq_true, Bool.or_eq_true, Bool.and_eq_false_iff, Bool.or_eq_false_iff, beq_true, beq_false] at ht2)
        refine tr_skip ?_
        (try simp only [thenE, inBlkE])
        refine hK12 _ ?_
        refine tr_seq fun K15 hK15 => ?_
        refine tr_seq fun K16 hK16 => ?_
        refine tr_region [3, 5, 6, 8, 17, 18, 19, 103] rfl rfl fun K hK => ?_
        iterate 6 (refine evR_step fun Kq hKq => ?_; simp (maxSteps := 4000000) (disch := first | assumption | omega | (simp only [go_sem, *]; done) | (simp only [go_sem, *]; omega)) only [go_sem, isE, notIn, St.bare, Bool.false_and, Bool.true_and, Bool.and_true, Bool.not_true, Bool.not_false, Int.reduceToNat, Nat.reduceBEq, Nat.reduceEqDiff, Nat.reduceAdd, Nat.reduceMul, Nat.reduceLeDiff, Nat.reduceLT, Nat.reduceSub, ↓reduceIte, reduceCtorEq, hw0, hn0]; (repeat (refine And.intro (by first | assumption | omega | decide | (simp; done) | (simp; omega)) ?_)); refine hKq _ ?_; clear hKq Kq)
        iterate 5 (refine evR_step fun Kq hKq => ?_; refine evO_guard (gb := ?_) (v0 := ?_) rfl ?_ ?_ ?_; rotate_left 1; (· intro K3 h3; simp (maxSteps := 4000000) (disch := first | assumption | omega | (simp only [go_sem, *]; done) | (simp only [go_sem, *]; omega)) only [go_sem, isE, notIn, St.bare, Bool.false_and, Bool.true_and, Bool.and_true, Bool.not_true, Bool.not_false, Int.reduceToNat, Nat.reduceBEq, Nat.reduceEqDiff, Nat.reduceAdd, Nat.reduceMul, Nat.reduceLeDiff, Nat.reduceLT, Nat.reduceSub, ↓reduceIte, reduceCtorEq, hw0, hn0]; exact h3); rotate_left 1; (· intro hgt; (try simp only [decide_eq_true_eq, decide_eq_false_iff_not, Bool.not_eq_true', Bool.not_eq_false', Bool.and_eq_true, Bool.or_eq_true, Bool.and_eq_false_iff, Bool.or_eq_false_iff, beq_true, beq_false] at hgt); simp (maxSteps := 4000000) (disch := first | assumption | omega | (simp only [go_sem, *]; done) | (simp only [go_sem, *]; omega)) only [go_sem, isE, notIn, St.bare, Bool.false_and, Bool.true_and, Bool.and_true, Bool.not_true, Bool.not_false, Int.reduceToNat, Nat.reduceBEq, Nat.reduceEqDiff, Nat.reduceAdd, Nat.reduceMul, Nat.reduceLeDiff, Nat.reduceLT, Nat.reduceSub, ↓reduceIte, reduceCtorEq, hw0, hn0]; (repeat (refine And.intro (by first | assumption | omega | decide | (simp; done) | (simp; omega)) ?_)); first | rfl | exact ⟨rfl, rfl⟩); simp only [St.put]; refine hKq _ ?_; clear hKq Kq)
        iterate 2 (refine evR_step fun Kq hKq => ?_; simp (maxSteps := 4000000) (disch := first | assumption | omega | (simp only [go_sem, *]; done) | (simp only [go_sem, *]; omega)) only [go_sem, isE, notIn, St.bare, Bool.false_and, Bool.true_and, Bool.and_true, Bool.not_true, Bool.not_false, Int.reduceToNat, Nat.reduceBEq, Nat.reduceEqDiff, Nat.reduceAdd, Nat.reduceMul, Nat.reduceLeDiff, Nat.reduceLT, Nat.reduceSub, ↓reduceIte, reduceCtorEq, hw0, hn0]; (repeat (refine And.intro (by first | assumption | omega | decide | (simp; done) | (simp; omega)) ?_)); refine hKq _ ?_; clear hKq Kq)
        iterate 2 (refine evR_step fun Kq hKq => ?_; refine evO_guard (gb := ?_) (v0 := ?_) rfl ?_ ?_ ?_; rotate_left 1; (· intro K3 h3; simp (maxSteps := 4000000) (disch := first | assumption | omega | (simp only [go_sem, *]; done) | (simp only [go_sem, *]; omega)) only [go_sem, isE, notIn, St.bare, Bool.false_and, Bool.true_and, Bool.and_true, Bool.not_true, Bool.not_false, Int.reduceToNat, Nat.reduceBEq, Nat.reduceEqDiff, Nat.reduceAdd, Nat.reduceMul, Nat.reduceLeDiff, Nat.reduceLT, Nat.reduceSub, ↓reduceIte, reduceCtorEq, hw0, hn0]; exact h3); rotate_left 1; (· intro hgt; (try simp only [decide_eq_true_eq, decide_eq_false_iff_not, Bool.not_eq_true', Bool.not_eq_false', Bool.and_eq_true, Bool.or_eq_true, Bool.and_eq_false_iff, Bool.or_eq_false_iff, beq_true, beq_false] at hgt); simp (maxSteps := 4000000) (disch := first | assumption | omega | (simp only [go_sem, *]; done) | (simp only [go_sem, *]; omega)) only [go_sem, isE, notIn, St.bare, Bool.false_and, Bool.true_and, Bool.and_true, Bool.not_true, Bool.not_false, Int.reduceToNat, Nat.reduceBEq, Nat.reduceEqDiff, Nat.reduceAdd, Nat.reduceMul, Nat.reduceLeDiff, Nat.reduceLT, Nat.reduceSub, ↓reduceIte, reduceCtorEq, hw0, hn0]; (repeat (refine And.intro (by first | assumption | omega | decide | (simp; done) | (simp; omega)) ?_)); first | rfl | exact ⟨rfl, rfl⟩); simp only [St.put]; refine hKq _ ?_; clear hKq Kq)
        iterate 2 (refine evR_step fun Kq hKq => ?_; simp (maxSteps := 4000000) (disch := first | assumption | omega | (simp only [go_sem, *]; done) | (simp only [go_sem, *]; omega)) only [go_sem, isE, notIn, St.bare, Bool.false_and, Bool.true_and, Bool.and_true, Bool.not_true, Bool.not_false, Int.reduceToNat, Nat.reduceBEq, Nat.reduceEqDiff, Nat.reduceAdd, Nat.reduceMul, Nat.reduceLeDiff, Nat.reduceLT, Nat.reduceSub, ↓reduceIte, reduceCtorEq, hw0, hn0]; (repeat (refine And.intro (by first | assumption | omega | decide | (simp; done) | (simp; omega)) ?_)); refine hKq _ ?_; clear hKq Kq)
        iterate 16 (refine evR_step fun Kq hKq => ?_; refine evO_guard (gb := ?_) (v0 := ?_) rfl ?_ ?_ ?_; rotate_left 1; (· intro K3 h3; simp (maxSteps := 4000000) (disch := first | assumption | omega | (simp only [go_sem, *]; done) | (simp only [go_sem, *]; omega)) only [go_sem, isE, notIn, St.bare, Bool.false_and, Bool.true_and, Bool.and_true, Bool.not_true, Bool.not_false, Int.reduceToNat, Nat.reduceBEq, Nat.reduceEqDiff, Nat.reduceAdd, Nat.reduceMul, Nat.reduceLeDiff, Nat.reduceLT, Nat.reduceSub, ↓reduceIte, reduceCtorEq, hw0, hn0]; exact h3); rotate_left 1; (· intro hgt; (try simp only [decide_eq_true_eq, decide_eq_false_iff_not, Bool.not_eq_true', Bool.not_eq_false', Bool.and_eq_true, Bool.or_eq_true, Bool.and_eq_false_iff, Bool.or_eq_false_iff, beq_true, beq_false] at hgt); simp (maxSteps := 4000000) (disch := first | assumption | omega | (simp only [go_sem, *]; done) | (simp only [go_sem, *]; omega)) only [go_sem, isE, notIn, St.bare, Bool.false_and, Bool.true_and, Bool.and_true, Bool.not_true, Bool.not_false, Int.reduceToNat, Nat.reduceBEq, Nat.reduceEqDiff, Nat.reduceAdd, Nat.reduceMul, Nat.reduceLeDiff, Nat.reduceLT, Nat.reduceSub, ↓reduceIte, reduceCtorEq, hw0, hn0]; (repeat (refine And.intro (by first | assumption | omega | decide | (simp; done) | (simp; omega)) ?_)); first | rfl | exact ⟨rfl, rfl⟩); simp only [St.put]; refine hKq _ ?_; clear hKq Kq)
        iterate 1 (refine evR_step fun Kq hKq => ?_; simp (maxSteps := 4000000) (disch := first | assumption | omega | (simp only [go_sem, *]; done) | (simp only [go_sem, *]; omega)) only [go_sem, isE, notIn, St.bare, Bool.false_and, Bool.true_and, Bool.and_true, Bool.not_true, Bool.not_false, Int.reduceToNat, Nat.reduceBEq, Nat.reduceEqDiff, Nat.reduceAdd, Nat.reduceMul, Nat.reduceLeDiff, Nat.reduceLT, Nat.reduceSub, ↓reduceIte, reduceCtorEq, hw0, hn0]; (repeat (refine And.intro (by first | assumption | omega | decide | (simp; done) | (simp; omega)) ?_)); refine hKq _ ?_; clear hKq Kq)
        refine evR_nil (hK _ ?_); clear hK K
        simp only [St.norm, thenE, inBlkE, List.filterMap, List.lookup, Option.map, Nat.reduceBEq]
        refine hK16 _ ?_
        refine tr_cond rfl (fun ht3 => ?_) (fun ht3 => ?_)
        · (try simp only [decide_eq_true_eq, decide_eq_false_iff_not, Bool.not_eq_true', Bool.not_eq_false', Bool.and_eq_true, Bool.or_eq_true, Bool.and_eq_false_iff, Bool.or_eq_false_iff, beq_true, beq_false] at ht3)
          refine tr_region [3, 5, 6, 8, 17, 18, 19] rfl rfl fun K hK => ?_
          iterate 3 (refine evR_step fun Kq hKq => ?_; simp (maxSteps := 4000000) (disch := first | assumption | omega | (simp only [go_sem, *]; done) | (simp only [go_sem, *]; omega)) only [go_sem, isE, notIn, St.bare, Bool.false_and, Bool.true_and, Bool.and_true, Bool.not_true, Bool.not_false, Int.reduceToNat, Nat.reduceBEq, Nat.reduceEqDiff, Nat.reduceAdd, Nat.reduceMul, Nat.reduceLeDiff, Nat.reduceLT, Nat.reduceSub, ↓reduceIte, reduceCtorEq, hw0, hn0]; (repeat (refine And.intro (by first | assumption | omega | decide | (simp; done) | (simp; omega)) ?_)); refine hKq _ ?_; clear hKq Kq)
          refine evR_nil (hK _ ?_); clear hK K
          simp only [St.norm, thenE, inBlkE, List.filterMap, List.lookup, Option.map, Nat.reduceBEq]
          refine hK15 _ ?_
          refine tr_region [3, 5, 6, 17, 18, 19] rfl rfl fun K hK => ?_
          iterate 2 (refine evR_step fun Kq hKq => ?_; simp (maxSteps := 4000000) (disch := first | assumption | omega | (simp only [go_sem, *]; done) | (simp only [go_sem, *]; omega)) only [go_sem, isE, notIn, St.bare, Bool.false_and, Bool.true_and, Bool.and_true, Bool.not_true, Bool.not_false, Int.reduceToNat, Nat.reduceBEq, Nat.reduceEqDiff, Nat.reduceAdd, Nat.reduceMul, Nat.reduceLeDiff, Nat.reduceLT, Nat.reduceSub, ↓reduceIte, reduceCtorEq, hw0, hn0]; (repeat (refine And.intro (by first | assumption | omega | decide | (simp; done) | (simp; omega)) ?_)); refine hKq _ ?_; clear hKq Kq)
          refine evR_nil (hK _ ?_); clear hK K
          simp only [St.norm, thenE, inBlkE, List.filterMap, List.lookup, Option.map, Nat.reduceBEq]
          refine hK8 _ ?_
          refine tr_region [3, 5, 6, 17, 18, 19] rfl rfl fun K hK => ?_
          iterate 2 (refine evR_step fun Kq hKq => ?_; simp (maxSteps := 4000000) (disch := first | assumption | omega | (simp only [go_sem, *]; done) | (simp only [go_sem, *]; omega)) only [go_sem, isE, notIn, St.bare, Bool.false_and, Bool.true_and, Bool.and_true, Bool.not_true, Bool.not_false, Int.reduceToNat, Nat.reduceBEq, Nat.reduceEqDiff, Nat.reduceAdd, Nat.reduceMul, Nat.reduceLeDiff, Nat.reduceLT, Nat.reduceSub, ↓reduceIte, reduceCtorEq, hw0, hn0]; (repeat (refine And.intro (by first | assumption | omega | decide | (simp; done) | (simp; omega)) ?_)); refine hKq _ ?_; clear hKq Kq)
          refine evR_nil (hK _ ?_); clear hK K
          simp only [St.norm, thenE, inBlkE, List.filterMap, List.lookup, Option.map, Nat.reduceBEq]
          refine hKL1 _ ?_
          have hit : hitP a (l.getD i ⟨0, 0⟩) p = false := by simp only [hitP, nearP, decide_eq_true_eq, decide_eq_false_iff_not, Bool.not_eq_true', Bool.not_eq_false', Bool.and_eq_true, Bool.or_eq_true, Bool.and_eq_false_iff, Bool.or_eq_false_iff, beq_true, beq_false]; omega
          first
            | (have hc : crossP a (l.getD i ⟨0, 0⟩) p = true := (by simp only [crossP, decide_eq_true_eq, decide_eq_false_iff_not, Bool.not_eq_true', Bool.not_eq_false', Bool.and_eq_true, Bool.or_eq_true, Bool.and_eq_false_iff, Bool.or_eq_false_iff, beq_true, beq_false]; omega); exact ⟨m - 1, _, by omega, Wk.cut 2 rfl, i + 1, l.getD i ⟨0, 0⟩, 0 - out, by omega, hbo, by omega, (sideGo_cross hil hit hc).trans hgo, by rw [w64 (by omega), w64 (by omega)]; rfl⟩)
            | (have hc : crossP a (l.getD i ⟨0, 0⟩) p = false := (by simp only [crossP, decide_eq_true_eq, decide_eq_false_iff_not, Bool.not_eq_true', Bool.not_eq_false', Bool.and_eq_true, Bool.or_eq_true, Bool.and_eq_false_iff, Bool.or_eq_false_iff, beq_true, beq_false]; omega); exact ⟨m - 1, _, by omega, Wk.cut 2 rfl, i + 1, l.getD i ⟨0, 0⟩, out, by omega, hbo, hout, (sideGo_miss hil hit hc).trans hgo, by rw [w64 (by omega)]; rfl⟩)
        · (try simp only [decide_eq_true_eq, decide_eq_false_iff_not, Bool.not_eq_true', Bool.not_eq_false', Bool.and_eq_true, Bool.or_eq_true, Bool.and_eq_false_iff, Bool.or_eq_false_iff, beq_true, beq_false] at ht3)
          refine tr_skip ?_
          (try simp only [thenE, inBlkE])
          refine hK15 _ ?_
          refine tr_region [3, 5, 6, 17, 18, 19] rfl rfl fun K hK => ?_
          iterate 2 (refine evR_step fun Kq hKq => ?_; simp (maxSteps := 4000000) (disch := first | assumption | omega | (simp only [go_sem, *]; done) | (simp only [go_sem, *]; omega)) only [go_sem, isE, notIn, St.bare, Bool.false_and, Bool.true_and, Bool.and_true, Bool.not_true, Bool.not_false, Int.reduceToNat, Nat.reduceBEq, Nat.reduceEqDiff, Nat.reduceAdd, Nat.reduceMul, Nat.reduceLeDiff, Nat.reduceLT, Nat.reduceSub, ↓reduceIte, reduceCtorEq, hw0, hn0]; (repeat (refine And.intro (by first | assumption | omega | decide | (simp; done) | (simp; omega)) ?_)); refine hKq _ ?_; clear hKq Kq)
          refine evR_nil (hK _ ?_); clear hK K
          simp only [St.norm, thenE, inBlkE, List.filterMap, List.lookup, Option.map, Nat.reduceBEq]
          refine hK8 _ ?_
          refine tr_region [3, 5, 6, 17, 18, 19] rfl rfl fun K hK => ?_
          iterate 2 (refine evR_step fun Kq hKq => ?_; simp (maxSteps := 4000000) (disch := first | assumption | omega | (simp only [go_sem, *]; done) | (simp only [go_sem, *]; omega)) only [go_sem, isE, notIn, St.bare, Bool.false_and, Bool.true_and, Bool.and_true, Bool.not_true, Bool.not_false, Int.reduceToNat, Nat.reduceBEq, Nat.reduceEqDiff, Nat.reduceAdd, Nat.reduceMul, Nat.reduceLeDiff, Nat.reduceLT, Nat.reduceSub, ↓reduceIte, reduceCtorEq, hw0, hn0]; (repeat (refine And.intro (by first | assumption | omega | decide | (simp; done) | (simp; omega)) ?_)); refine hKq _ ?_; clear hKq Kq)
          refine evR_nil (hK _ ?_); clear hK K
          simp only [St.norm, thenE, inBlkE, List.filterMap, List.lookup, Option.map, Nat.reduceBEq]
          refine hKL1 _ ?_
          have hit : hitP a (l.getD i ⟨0, 0⟩) p = false := by simp only [hitP, nearP, decide_eq_true_eq, decide_eq_false_iff_not, Bool.not_eq_true', Bool.not_eq_false', Bool.and_eq_true, Bool.or_eq_true, Bool.and_eq_false_iff, Bool.or_eq_false_iff, beq_true, beq_false]; omega
          first
            | (have hc : crossP a (l.getD i ⟨0, 0⟩) p = true := (by simp only [crossP, decide_eq_true_eq, decide_eq_false_iff_not, Bool.not_eq_true', Bool.not_eq_false', Bool.and_eq_true, Bool.or_eq_true, Bool.and_eq_false_iff, Bool.or_eq_false_iff, beq_true, beq_false]; omega); exact ⟨m - 1, _, by omega, Wk.cut 2 rfl, i + 1, l.getD i ⟨0, 0⟩, 0 - out, by omega, hbo, by omega, (sideGo_cross hil hit hc).trans hgo, by rw [w64 (by omega), w64 (by omega)]; rfl⟩)
            | (have hc : crossP a (l.getD i ⟨0, 0⟩) p = false := (by simp only [crossP, decide_eq_true_eq, decide_eq_false_iff_not, Bool.not_eq_true', Bool.not_eq_false', Bool.and_eq_true, Bool.or_eq_true, Bool.and_eq_false_iff, Bool.or_eq_false_iff, beq_true, beq_false]; omega); exact ⟨m - 1, _, by omega, Wk.cut 2 rfl, i + 1, l.getD i ⟨0, 0⟩, out, by omega, hbo, hout, (sideGo_miss hil hit hc).trans hgo, by rw [w64 (by omega)]; rfl⟩)
    · (try simp only [decide_eq_true_eq, decide_eq_false_iff_not, Bool.not_eq_true', Bool.not_eq_false', Bool.and_eq_true, Bool.or_eq_true, Bool.and_eq_false_iff, Bool.or_eq_false_iff, beq_true, beq_false] at ht1)
      have hil : i = l.length := by omega
      subst hil
      refine tr_exit ?_
      simp only [thenE, inBlkE, Nat.reduceEqDiff, ↓reduceIte]
      refine hK4 _ ?_
      refine tr_seq fun K17 hK17 => ?_
      refine tr_region [4] rfl rfl fun K hK => ?_
      iterate 2 (refine evR_step fun Kq hKq => ?_; simp (maxSteps := 4000000) (disch := first | assumption | omega | (simp only [go_sem, *]; done) | (simp only [go_sem, *]; omega)) only [go_sem, isE, notIn, St.bare, Bool.false_and, Bool.true_and, Bool.and_true, Bool.not_true, Bool.not_false, Int.reduceToNat, Nat.reduceBEq, Nat.reduceEqDiff, Nat.reduceAdd, Nat.reduceMul, Nat.reduceLeDiff, Nat.reduceLT, Nat.reduceSub, ↓reduceIte, reduceCtorEq, hw0, hn0]; (repeat (refine And.intro (by first | assumption | omega | decide | (simp; done) | (simp; omega)) ?_)); refine hKq _ ?_; clear hKq Kq)
      refine evR_nil (hK _ ?_); clear hK K
      simp only [St.norm, thenE, inBlkE, List.filterMap, List.lookup, Option.map, Nat.reduceBEq]
      refine hK17 _ ?_
      refine tr_ret ?_
      (try simp only [thenE, inBlkE])
      simp (maxSteps := 4000000) (disch := first | assumption | omega | (simp only [go_sem, *]; done) | (simp only [go_sem, *]; omega)) only [postA, resV1, fzAll, go_sem, isE, notIn, St.bare, Bool.false_and, Bool.true_and, Bool.and_true, Bool.not_true, Bool.not_false, Int.reduceToNat, Nat.reduceBEq, Nat.reduceEqDiff, Nat.reduceAdd, Nat.reduceMul, Nat.reduceLeDiff, Nat.reduceLT, Nat.reduceSub, ↓reduceIte, reduceCtorEq, hw0, hn0]
      all_goals (first | (have hit : hitP a (l.getD i ⟨0, 0⟩) p = true := (by simp only [hitP, nearP, decide_eq_true_eq, decide_eq_false_iff_not, Bool.not_eq_true', Bool.not_eq_false', Bool.and_eq_true, Bool.or_eq_true, Bool.and_eq_false_iff, Bool.or_eq_false_iff, beq_true, beq_false]; omega); rw [← hgo, sideGo_hit hil hit]) | (rw [← hgo, List.drop_length]; rfl))

theorem c49 (l : List Pl) (p : Pl) (hv : validP l = true) (hp : onMap p = true) : CallsA Try.prog 49 [.agg [.int .i64 p.x, .int .i64 p.y], .ep [.sl 2 (encP l)]] (.bool (decide (0 ≤ sideP l p))) := by
  refine callsA_of_tr Try.func49 rfl (Nat.le_of_ble_eq_true rfl) ?_
  simp only [Try.results49, envOf, Nat.reduceAdd]
  refine tr_seq fun K1 hK1 => ?_
  refine tr_region [1, 2] rfl rfl fun K hK => ?_
  iterate 2 (refine evR_step fun Kq hKq => ?_; simp (maxSteps := 4000000) (disch := first | assumption | omega | (simp only [go_sem, *]; done) | (simp only [go_sem, *]; omega)) only [go_sem, isE, notIn, St.bare, Bool.false_and, Bool.true_and, Bool.and_true, Bool.not_true, Bool.not_false, Int.reduceToNat, Nat.reduceBEq, Nat.reduceEqDiff, Nat.reduceAdd, Nat.reduceMul, Nat.reduceLeDiff, Nat.reduceLT, Nat.reduceSub, ↓reduceIte, reduceCtorEq]; (repeat (refine And.intro (by first | assumption | omega | decide | (simp; done) | (simp; omega)) ?_)); refine hKq _ ?_; clear hKq Kq)
  refine evR_nil (hK _ ?_); clear hK K
  simp only [St.norm, thenE, inBlkE, List.filterMap, List.lookup, Option.map, Nat.reduceBEq]
  refine hK1 _ ?_
  refine tr_seq fun K2 hK2 => ?_
  refine tr_region [3] rfl rfl fun K hK => ?_
  iterate 2 (refine evR_step fun Kq hKq => ?_; simp (maxSteps := 4000000) (disch := first | assumption | omega | (simp only [go_sem, *]; done) | (simp only [go_sem, *]; omega)) only [go_sem, isE, notIn, St.bare, Bool.false_and, Bool.true_and, Bool.and_true, Bool.not_true, Bool.not_false, Int.reduceToNat, Nat.reduceBEq, Nat.reduceEqDiff, Nat.reduceAdd, Nat.reduceMul, Nat.reduceLeDiff, Nat.reduceLT, Nat.reduceSub, ↓reduceIte, reduceCtorEq]; (repeat (refine And.intro (by first | assumption | omega | decide | (simp; done) | (simp; omega)) ?_)); refine hKq _ ?_; clear hKq Kq)
  refine evR_step fun Kq hKq => ?_
  simp (maxSteps := 4000000) (disch := first | assumption | omega | (simp only [go_sem, *]; done) | (simp only [go_sem, *]; omega)) only [go_sem, isE, notIn, St.bare, Bool.false_and, Bool.true_and, Bool.and_true, Bool.not_true, Bool.not_false, Int.reduceToNat, Nat.reduceBEq, Nat.reduceEqDiff, Nat.reduceAdd, Nat.reduceMul, Nat.reduceLeDiff, Nat.reduceLT, Nat.reduceSub, ↓reduceIte, reduceCtorEq]
  (repeat (refine And.intro (by first | assumption | omega | decide | (simp; done) | (simp; omega)) ?_))
  refine ⟨_, (c50 l p hv hp), ?_⟩
  refine hKq _ ?_; clear hKq Kq
  iterate 2 (refine evR_step fun Kq hKq => ?_; simp (maxSteps := 4000000) (disch := first | assumption | omega | (simp only [go_sem, *]; done) | (simp only [go_sem, *]; omega)) only [go_sem, isE, notIn, St.bare, Bool.false_and, Bool.true_and, Bool.and_true, Bool.not_true, Bool.not_false, Int.reduceToNat, Nat.reduceBEq, Nat.reduceEqDiff, Nat.reduceAdd, Nat.reduceMul, Nat.reduceLeDiff, Nat.reduceLT, Nat.reduceSub, ↓reduceIte, reduceCtorEq]; (repeat (refine And.intro (by first | assumption | omega | decide | (simp; done) | (simp; omega)) ?_)); refine hKq _ ?_; clear hKq Kq)
  refine evR_nil (hK _ ?_); clear hK K
  simp only [St.norm, thenE, inBlkE, List.filterMap, List.lookup, Option.map, Nat.reduceBEq]
  refine hK2 _ ?_
  refine tr_ret ?_
  (try simp only [thenE, inBlkE])
  simp (maxSteps := 4000000) (disch := first | assumption | omega | (simp only [go_sem, *]; done) | (simp only [go_sem, *]; omega)) only [postA, resV1, fzAll, go_sem, isE, notIn, St.bare, Bool.false_and, Bool.true_and, Bool.and_true, Bool.not_true, Bool.not_false, Int.reduceToNat, Nat.reduceBEq, Nat.reduceEqDiff, Nat.reduceAdd, Nat.reduceMul, Nat.reduceLeDiff, Nat.reduceLT, Nat.reduceSub, ↓reduceIte, reduceCtorEq]
  all_goals (simp)

theorem c35 (l : List Pl) (p : Pl) (hm : l.length ≤ maxLen) : CallsA Try.prog 35 [.sl 2 (encP l), .agg [.int .i64 p.x, .int .i64 p.y]] (.int .i64 (insideP l p)) := by
  refine callsA_of_tr Try.func35 rfl (Nat.le_of_ble_eq_true rfl) ?_
  simp only [Try.results35, envOf, Nat.reduceAdd]
  refine tr_seq fun K1 hK1 => ?_
  refine tr_region [0, 3] rfl rfl fun K hK => ?_
  iterate 2 (refine evR_step fun Kq hKq => ?_; simp (maxSteps := 4000000) (disch := first | assumption | omega | (simp only [go_sem, *]; done) | (simp only [go_sem, *]; omega)) only [go_sem, isE, notIn, St.bare, Bool.false_and, Bool.true_and, Bool.and_true, Bool.not_true, Bool.not_false, Int.reduceToNat, Nat.reduceBEq, Nat.reduceEqDiff, Nat.reduceAdd, Nat.reduceMul, Nat.reduceLeDiff, Nat.reduceLT, Nat.reduceSub, ↓reduceIte, reduceCtorEq]; (repeat (refine And.intro (by first | assumption | omega | decide | (simp; done) | (simp; omega)) ?_)); refine hKq _ ?_; clear hKq Kq)
  refine evR_nil (hK _ ?_); clear hK K
  simp only [St.norm, thenE, inBlkE, List.filterMap, List.lookup, Option.map, Nat.reduceBEq]
  refine hK1 _ ?_
  refine tr_seq fun K2 hK2 => ?_
  refine tr_seq fun K3 hK3 => ?_
  refine tr_region [0, 3, 12] rfl rfl fun K hK => ?_
  iterate 1 (refine evR_step fun Kq hKq => ?_; simp (maxSteps := 4000000) (disch := first | assumption | omega | (simp only [go_sem, *]; done) | (simp only [go_sem, *]; omega)) only [go_sem, isE, notIn, St.bare, Bool.false_and, Bool.true_and, Bool.and_true, Bool.not_true, Bool.not_false, Int.reduceToNat, Nat.reduceBEq, Nat.reduceEqDiff, Nat.reduceAdd, Nat.reduceMul, Nat.reduceLeDiff, Nat.reduceLT, Nat.reduceSub, ↓reduceIte, reduceCtorEq]; (repeat (refine And.intro (by first | assumption | omega | decide | (simp; done) | (simp; omega)) ?_)); refine hKq _ ?_; clear hKq Kq)
  refine evR_step fun Kq hKq => ?_
  simp (maxSteps := 4000000) (disch := first | assumption | omega | (simp only [go_sem, *]; done) | (simp only [go_sem, *]; omega)) only [go_sem, isE, notIn, St.bare, Bool.false_and, Bool.true_and, Bool.and_true, Bool.not_true, Bool.not_false, Int.reduceToNat, Nat.reduceBEq, Nat.reduceEqDiff, Nat.reduceAdd, Nat.reduceMul, Nat.reduceLeDiff, Nat.reduceLT, Nat.reduceSub, ↓reduceIte, reduceCtorEq]
  (repeat (refine And.intro (by first | assumption | omega | decide | (simp; done) | (simp; omega)) ?_))
  refine ⟨_, (c33 l hm), ?_⟩
  refine hKq _ ?_; clear hKq Kq
  iterate 2 (refine evR_step fun Kq hKq => ?_; simp (maxSteps := 4000000) (disch := first | assumption | omega | (simp only [go_sem, *]; done) | (simp only [go_sem, *]; omega)) only [go_sem, isE, notIn, St.bare, Bool.false_and, Bool.true_and, Bool.and_true, Bool.not_true, Bool.not_false, Int.reduceToNat, Nat.reduceBEq, Nat.reduceEqDiff, Nat.reduceAdd, Nat.reduceMul, Nat.reduceLeDiff, Nat.reduceLT, Nat.reduceSub, ↓reduceIte, reduceCtorEq]; (repeat (refine And.intro (by first | assumption | omega | decide | (simp; done) | (simp; omega)) ?_)); refine hKq _ ?_; clear hKq Kq)
  iterate 1 (refine evR_step fun Kq hKq => ?_; refine evO_guard (gb := ?_) (v0 := ?_) rfl ?_ ?_ ?_; rotate_left 1; (· intro K3 h3; simp (maxSteps := 4000000) (disch := first | assumption | omega | (simp only [go_sem, *]; done) | (simp only [go_sem, *]; omega)) only [go_sem, isE, notIn, St.bare, Bool.false_and, Bool.true_and, Bool.and_true, Bool.not_true, Bool.not_false, Int.reduceToNat, Nat.reduceBEq, Nat.reduceEqDiff, Nat.reduceAdd, Nat.reduceMul, Nat.reduceLeDiff, Nat.reduceLT, Nat.reduceSub, ↓reduceIte, reduceCtorEq]; exact h3); rotate_left 1; (· intro hgt; (try simp only [decide_eq_true_eq, decide_eq_false_iff_not, Bool.not_eq_true', Bool.not_eq_false', Bool.and_eq_true, Bool.or_eq_true, Bool.and_eq_false_iff, Bool.or_eq_false_iff, beq_true, beq_false] at hgt); simp (maxSteps := 4000000) (disch := first | assumption | omega | (simp only [go_sem, *]; done) | (simp only [go_sem, *]; omega)) only [go_sem, isE, notIn, St.bare, Bool.false_and, Bool.true_and, Bool.and_true, Bool.not_true, Bool.not_false, Int.reduceToNat, Nat.reduceBEq, Nat.reduceEqDiff, Nat.reduceAdd, Nat.reduceMul, Nat.reduceLeDiff, Nat.reduceLT, Nat.reduceSub, ↓reduceIte, reduceCtorEq]; (repeat (refine And.intro (by first | assumption | omega | decide | (simp; done) | (simp; omega)) ?_)); first | rfl | exact ⟨rfl, rfl⟩); simp only [St.put]; refine hKq _ ?_; clear hKq Kq)
  refine evR_step fun Kq hKq => ?_; refine evO_guard (gb := ?_) (v0 := ?_) rfl ?_ ?_ ?_; rotate_left 1; (· intro K3 h3; simp (maxSteps := 4000000) (disch := first | assumption | omega | (simp only [go_sem, *]; done) | (simp only [go_sem, *]; omega)) only [go_sem, isE, notIn, St.bare, Bool.false_and, Bool.true_and, Bool.and_true, Bool.not_true, Bool.not_false, Int.reduceToNat, Nat.reduceBEq, Nat.reduceEqDiff, Nat.reduceAdd, Nat.reduceMul, Nat.reduceLeDiff, Nat.reduceLT, Nat.reduceSub, ↓reduceIte, reduceCtorEq]; exact h3); rotate_left 1
  · intro hgt; (try simp only [decide_eq_true_eq, decide_eq_false_iff_not, Bool.not_eq_true', Bool.not_eq_false', Bool.and_eq_true, Bool.or_eq_true, Bool.and_eq_false_iff, Bool.or_eq_false_iff, beq_true, beq_false] at hgt); simp (maxSteps := 4000000) (disch := first | assumption | omega | (simp only [go_sem, *]; done) | (simp only [go_sem, *]; omega)) only [go_sem, isE, notIn, St.bare, Bool.false_and, Bool.true_and, Bool.and_true, Bool.not_true, Bool.not_false, Int.reduceToNat, Nat.reduceBEq, Nat.reduceEqDiff, Nat.reduceAdd, Nat.reduceMul, Nat.reduceLeDiff, Nat.reduceLT, Nat.reduceSub, ↓reduceIte, reduceCtorEq]; (repeat (refine And.intro (by first | assumption | omega | decide | (simp; done) | (simp; omega)) ?_))
    refine ⟨_, (c52 p), ?_⟩
    first | rfl | exact ⟨rfl, rfl⟩
  simp only [St.put]; refine hKq _ ?_; clear hKq Kq
  iterate 1 (refine evR_step fun Kq hKq => ?_; refine evO_guard (gb := ?_) (v0 := ?_) rfl ?_ ?_ ?_; rotate_left 1; (· intro K3 h3; simp (maxSteps := 4000000) (disch := first | assumption | omega | (simp only [go_sem, *]; done) | (simp only [go_sem, *]; omega)) only [go_sem, isE, notIn, St.bare, Bool.false_and, Bool.true_and, Bool.and_true, Bool.not_true, Bool.not_false, Int.reduceToNat, Nat.reduceBEq, Nat.reduceEqDiff, Nat.reduceAdd, Nat.reduceMul, Nat.reduceLeDiff, Nat.reduceLT, Nat.reduceSub, ↓reduceIte, reduceCtorEq]; exact h3); rotate_left 1; (· intro hgt; (try simp only [decide_eq_true_eq, decide_eq_false_iff_not, Bool.not_eq_true', Bool.not_eq_false', Bool.and_eq_true, Bool.or_eq_true, Bool.and_eq_false_iff, Bool.or_eq_false_iff, beq_true, beq_false] at hgt); simp (maxSteps := 4000000) (disch := first | assumption | omega | (simp only [go_sem, *]; done) | (simp only [go_sem, *]; omega)) only [go_sem, isE, notIn, St.bare, Bool.false_and, Bool.true_and, Bool.and_true, Bool.not_true, Bool.not_false, Int.reduceToNat, Nat.reduceBEq, Nat.reduceEqDiff, Nat.reduceAdd, Nat.reduceMul, Nat.reduceLeDiff, Nat.reduceLT, Nat.reduceSub, ↓reduceIte, reduceCtorEq]; (repeat (refine And.intro (by first | assumption | omega | decide | (simp; done) | (simp; omega)) ?_)); first | rfl | exact ⟨rfl, rfl⟩); simp only [St.put]; refine hKq _ ?_; clear hKq Kq)
  iterate 1 (refine evR_step fun Kq hKq => ?_; simp (maxSteps := 4000000) (disch := first | assumption | omega | (simp only [go_sem, *]; done) | (simp only [go_sem, *]; omega)) only [go_sem, isE, notIn, St.bare, Bool.false_and, Bool.true_and, Bool.and_true, Bool.not_true, Bool.not_false, Int.reduceToNat, Nat.reduceBEq, Nat.reduceEqDiff, Nat.reduceAdd, Nat.reduceMul, Nat.reduceLeDiff, Nat.reduceLT, Nat.reduceSub, ↓reduceIte, reduceCtorEq]; (repeat (refine And.intro (by first | assumption | omega | decide | (simp; done) | (simp; omega)) ?_)); refine hKq _ ?_; clear hKq Kq)
  refine evR_nil (hK _ ?_); clear hK K
  simp only [St.norm, thenE, inBlkE, List.filterMap, List.lookup, Option.map, Nat.reduceBEq]
  refine hK3 _ ?_
  refine tr_cond rfl (fun ht1 => ?_) (fun ht1 => ?_)
  · (try simp only [decide_eq_true_eq, decide_eq_false_iff_not, Bool.not_eq_true', Bool.not_eq_false', Bool.and_eq_true, Bool.or_eq_true, Bool.and_eq_false_iff, Bool.or_eq_false_iff, beq_true, beq_false] at ht1)
    refine tr_seq fun K4 hK4 => ?_
    refine tr_region [4] rfl rfl fun K hK => ?_
    iterate 1 (refine evR_step fun Kq hKq => ?_; simp (maxSteps := 4000000) (disch := first | assumption | omega | (simp only [go_sem, *]; done) | (simp only [go_sem, *]; omega)) only [go_sem, isE, notIn, St.bare, Bool.false_and, Bool.true_and, Bool.and_true, Bool.not_true, Bool.not_false, Int.reduceToNat, Nat.reduceBEq, Nat.reduceEqDiff, Nat.reduceAdd, Nat.reduceMul, Nat.reduceLeDiff, Nat.reduceLT, Nat.reduceSub, ↓reduceIte, reduceCtorEq]; (repeat (refine And.intro (by first | assumption | omega | decide | (simp; done) | (simp; omega)) ?_)); refine hKq _ ?_; clear hKq Kq)
    refine evR_nil (hK _ ?_); clear hK K
    simp only [St.norm, thenE, inBlkE, List.filterMap, List.lookup, Option.map, Nat.reduceBEq]
    refine hK4 _ ?_
    refine tr_ret ?_
    (try simp only [thenE, inBlkE])
    simp (maxSteps := 4000000) (disch := first | assumption | omega | (simp only [go_sem, *]; done) | (simp only [go_sem, *]; omega)) only [postA, resV1, fzAll, go_sem, isE, notIn, St.bare, Bool.false_and, Bool.true_and, Bool.and_true, Bool.not_true, Bool.not_false, Int.reduceToNat, Nat.reduceBEq, Nat.reduceEqDiff, Nat.reduceAdd, Nat.reduceMul, Nat.reduceLeDiff, Nat.reduceLT, Nat.reduceSub, ↓reduceIte, reduceCtorEq]
    all_goals ((cases hv : validP l <;> cases ho : onMap p <;> simp_all [insideP]))
  · (try simp only [decide_eq_true_eq, decide_eq_false_iff_not, Bool.not_eq_true', Bool.not_eq_false', Bool.and_eq_true, Bool.or_eq_true, Bool.and_eq_false_iff, Bool.or_eq_false_iff, beq_true, beq_false] at ht1)
    refine tr_skip ?_
    (try simp only [thenE, inBlkE])
    refine hK2 _ ?_
    refine tr_seq fun K5 hK5 => ?_
    refine tr_region [4] rfl rfl fun K hK => ?_
    iterate 2 (refine evR_step fun Kq hKq => ?_; simp (maxSteps := 4000000) (disch := first | assumption | omega | (simp only [go_sem, *]; done) | (simp only [go_sem, *]; omega)) only [go_sem, isE, notIn, St.bare, Bool.false_and, Bool.true_and, Bool.and_true, Bool.not_true, Bool.not_false, Int.reduceToNat, Nat.reduceBEq, Nat.reduceEqDiff, Nat.reduceAdd, Nat.reduceMul, Nat.reduceLeDiff, Nat.reduceLT, Nat.reduceSub, ↓reduceIte, reduceCtorEq]; (repeat (refine And.intro (by first | assumption | omega | decide | (simp; done) | (simp; omega)) ?_)); refine hKq _ ?_; clear hKq Kq)
    refine evR_step fun Kq hKq => ?_
    simp (maxSteps := 4000000) (disch := first | assumption | omega | (simp only [go_sem, *]; done) | (simp only [go_sem, *]; omega)) only [go_sem, isE, notIn, St.bare, Bool.false_and, Bool.true_and, Bool.and_true, Bool.not_true, Bool.not_false, Int.reduceToNat, Nat.reduceBEq, Nat.reduceEqDiff, Nat.reduceAdd, Nat.reduceMul, Nat.reduceLeDiff, Nat.reduceLT, Nat.reduceSub, ↓reduceIte, reduceCtorEq]
    (repeat (refine And.intro (by first | assumption | omega | decide | (simp; done) | (simp; omega)) ?_))
    refine ⟨_, (c50 l p (by simp_all) (by simp_all)), ?_⟩
    refine hKq _ ?_; clear hKq Kq
    iterate 1 (refine evR_step fun Kq hKq => ?_; simp (maxSteps := 4000000) (disch := first | assumption | omega | (simp only [go_sem, *]; done) | (simp only [go_sem, *]; omega)) only [go_sem, isE, notIn, St.bare, Bool.false_and, Bool.true_and, Bool.and_true, Bool.not_true, Bool.not_false, Int.reduceToNat, Nat.reduceBEq, Nat.reduceEqDiff, Nat.reduceAdd, Nat.reduceMul, Nat.reduceLeDiff, Nat.reduceLT, Nat.reduceSub, ↓reduceIte, reduceCtorEq]; (repeat (refine And.intro (by first | assumption | omega | decide | (simp; done) | (simp; omega)) ?_)); refine hKq _ ?_; clear hKq Kq)
    refine evR_nil (hK _ ?_); clear hK K
    simp only [St.norm, thenE, inBlkE, List.filterMap, List.lookup, Option.map, Nat.reduceBEq]
    refine hK5 _ ?_
    refine tr_ret ?_
    (try simp only [thenE, inBlkE])
    simp (maxSteps := 4000000) (disch := first | assumption | omega | (simp only [go_sem, *]; done) | (simp only [go_sem, *]; omega)) only [postA, resV1, fzAll, go_sem, isE, notIn, St.bare, Bool.false_and, Bool.true_and, Bool.and_true, Bool.not_true, Bool.not_false, Int.reduceToNat, Nat.reduceBEq, Nat.reduceEqDiff, Nat.reduceAdd, Nat.reduceMul, Nat.reduceLeDiff, Nat.reduceLT, Nat.reduceSub, ↓reduceIte, reduceCtorEq]
    all_goals ((cases hv : validP l <;> cases ho : onMap p <;> simp_all [insideP]))

end Go.Proofs.Ytpaielaniekdbaa

