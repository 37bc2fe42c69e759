import Derived.Test.YtcphhbiehaimeaaF23
import Derived.Test.YtcphhbiehaimeaaAi24
import Derived.Test.YtcphhbiehaimeaaP23
import Derived.Test.YtcphhbiehaimeaaPS23
import Derived.Test.YtcphhbiehaimeaaC23l
import Derived.Test.YtcphhbiehaimeaaC23m
import Derived.Test.YtcphhbiehaimeaaC23c
import Derived.Test.YtcphhbiehaimeaaC23f
namespace Go.Proofs.Ytcphhbiehaimeaa
open Go.RowKit
set_option linter.unusedVariables false
set_option linter.unusedSimpArgs false
set_option maxRecDepth 100000
attribute [local go_sem] Nat.zero_add Nat.add_zero Nat.mul_one eq_self ne_eq not_true_eq_false not_false_eq_true decide_true decide_false decide_not Bool.false_eq_true List.filter_cons List.filter_nil true_and and_true beq_false beq_true Bool.not_true Bool.not_false Bool.and_true Bool.true_and Option.getD_some Option.getD_none imp_self implies_true Int.toNat_natCast List.cons_append List.nil_append List.map_cons List.map_nil List.length_cons List.length_nil List.getD_cons_zero List.getD_cons_succ List.drop_zero List.drop_succ_cons List.take_succ_cons List.take_zero
attribute [local go_sem] isE isO stpO notIn St.bare evO evDO isEff stp St.get St.slot St.put List.lookup un unL ofVal gof nth pickV pkB_false pkB_true binV unV loadV idxV fldV partV buildV fillV lenV sliV appV appR rowsV winV V.parts V.okp V.sc Mem.look_cons Mem.look_nil V.cl V.clL AObj.clo fzAll exps St.fz Mem.fz V.fz V.fzL AObj.fz Option.isSome_some Option.isSome_none Bool.or_true Bool.true_or Bool.or_false Bool.false_or false_and and_false false_or or_false arT_22 arT_23 arT_24 arT_27 arT_34 arT_35 arT_50 arT_59 arT_61 arT_64 arT_65 arT_68 boolT_24 boolT_3 boolT_38 boolT_4 boolT_79 flatT_24 flatT_3 flatT_38 flatT_4 flatT_79 intT_3 intT_93 lay_23 lay_24 lay_26 lay_27 lay_29 lay_3 lay_32 lay_35 lay_37 lay_4 lay_59 lay_68 lay_70 lay_79 lay_82 lay_88 okF_10 okF_11 okF_12 okF_13 okF_14 okF_15 okF_16 okF_17 okF_18 okF_19 okF_20 okF_21 okF_22 okF_23 okF_24 okF_25 okF_26 okF_27 okF_28 okF_29 okF_3 okF_30 okF_31 okF_32 okF_33 okF_34 okF_35 okF_36 okF_37 okF_38 okF_39 okF_4 okF_40 okF_41 okF_42 okF_43 okF_44 okF_45 okF_46 okF_47 okF_48 okF_49 okF_5 okF_50 okF_51 okF_52 okF_53 okF_54 okF_55 okF_56 okF_57 okF_58 okF_59 okF_6 okF_60 okF_61 okF_62 okF_63 okF_64 okF_65 okF_66 okF_67 okF_68 okF_69 okF_7 okF_70 okF_71 okF_72 okF_73 okF_74 okF_75 okF_8 okF_9 plT_26 plT_29 plT_37 plT_70 plT_79 slT_22 slT_23 slT_24 slT_27 slT_34 slT_35 slT_50 slT_59 slT_61 slT_64 slT_65 slT_68 stT_26_0 stT_26_1 stT_26_2 stT_26_3 stT_26_4 stT_26_5 stT_29_0 stT_29_1 stT_29_2 stT_37_0 stT_37_1 stT_37_2 stT_37_3 stT_70_0 stT_70_1 stT_70_2 stT_70_3 stT_79_0 stT_79_1 zeroT_24 zeroT_26 zeroT_29 zeroT_3 zeroT_32 zeroT_35 zeroT_37 zeroT_59 zeroT_65 zeroT_70 zeroT_79
attribute [local go_sem] List.getElem?_cons_zero List.getElem?_cons_succ List.zip_cons_cons List.zip_nil_left List.zip_nil_right Bool.false_and Bool.and_false List.length_append List.length_set List.length_replicate List.all_cons List.all_nil encI_length encI_getD encR_length encR_getD encRw encPg spl shp AObj.shp rowM isSt isRpS isRd csh AObj.csh forall_const imp_self
attribute [local simp] encI_length encR_length
section
attribute [local go_sem] encSol encR_one encS_length encS_getD encSt ex_w1 ex_w2
set_option maxHeartbeats 8000000 in
theorem c10  : CallsA Try.prog 10 [] (.bool true) := by
  obtain ⟨x1, x2, x3, x4, x5⟩ := ex_solve
  obtain ⟨y1, y2, y3, y4⟩ := tg_solve
  obtain ⟨k1, k2⟩ := ex_keep
  obtain ⟨z1, z2⟩ := ex_rlen
  have hq := And.intro x1 (And.intro x2 (And.intro x3 (And.intro x4 (And.intro x5 (And.intro y1 (And.intro y2 (And.intro y3 (And.intro y4 (z1)))))))))
  refine callsA_of_tr Try.func10 rfl (Nat.le_of_ble_eq_true rfl) ?_
  simp only [Try.results10, envOf, Nat.reduceAdd]
  refine tr_seq fun K1 hK1 => ?_
  refine tr_region [] rfl rfl fun K hK => ?_
  refine evR_p ?_
  refine evR_e hK ?_; clear hK K
  refine hK1 _ ?_
  refine tr_seq fun K2 hK2 => ?_
  refine tr_region [1] rfl rfl fun K hK => ?_
  refine evR_c (hc := c36) (k := ?_)
  iterate 2 refine evR_p ?_
  refine evR_e hK ?_; clear hK K
  refine hK2 _ ?_
  refine tr_seq fun K3 hK3 => ?_
  refine tr_region [1, 2, 3] rfl rfl fun K hK => ?_
  refine evR_p ?_
  refine evR_c (hc := (c14 exP ex_len.1 ex_len.2.1 ex_len.2.2 ex_v)) (k := ?_)
  iterate 6 refine evR_p ?_
  refine evR_e hK ?_; clear hK K
  refine hK3 _ ?_
  refine tr_seq fun K4 hK4 => ?_
  refine tr_region [1, 2, 3, 4, 5] rfl rfl fun K hK => ?_
  refine evR_p ?_
  refine evR_c (hc := (c16 exP ex_len.1 ex_len.2.1 ex_len.2.2 ex_v)) (k := ?_)
  iterate 5 refine evR_p ?_
  refine evR_e hK ?_; clear hK K
  refine hK4 _ ?_
  refine tr_seq fun K5 hK5 => ?_
  refine tr_region [1, 2, 3, 4, 5, 6] rfl rfl fun K hK => ?_
  refine evR_c (hc := c36c) (k := ?_)
  iterate 2 refine evR_p ?_
  refine evR_e hK ?_; clear hK K
  refine hK5 _ ?_
  refine tr_seq fun K6 hK6 => ?_
  refine tr_region [1, 2, 3, 4, 5, 6] rfl rfl fun K hK => ?_
  iterate 2 refine evR_p ?_
  refine evR_bs ?_
  refine evR_p ?_
  refine evR_bs ?_
  iterate 3 refine evR_p ?_
  refine evR_e hK ?_; clear hK K
  refine hK6 _ ?_
  refine tr_seq fun K7 hK7 => ?_
  refine tr_fz [.own 4] (by simp (maxSteps := 4000000) (disch := first | assumption | omega | (simp only [go_sem, *]; done) | (simp only [go_sem, *]; omega)) only [go_sem, hq, Int.reduceToNat, Nat.reduceBEq, Nat.reduceEqDiff, Nat.reduceAdd, Nat.reduceMul, Nat.reduceLeDiff, Nat.reduceLT, Nat.reduceSub, ↓reduceIte, reduceCtorEq]; (try rfl)) ?_
  refine tr_region [1, 2, 3, 4, 5, 6, 7, 8] rfl rfl fun K hK => ?_
  refine evR_p ?_
  refine evR_c (hc := (c14 tgP tg_len.1 tg_len.2.1 tg_len.2.2 tg_v)) (k := ?_)
  iterate 6 refine evR_p ?_
  refine evR_e hK ?_; clear hK K
  refine hK7 _ ?_
  refine tr_seq fun K8 hK8 => ?_
  refine tr_region [1, 2, 3, 4, 5, 6, 7, 8, 10] rfl rfl fun K hK => ?_
  refine evR_p ?_
  refine evR_c (hc := ((c14n ⟨1, [], []⟩ (by simp) (by simp) (by simp) e1_v).arg (.cons (.agg (.cons (.refl _) (.cons (.nsl 6) (.cons (.nsl 1) .nil)))) .nil))) (k := ?_)
  iterate 6 refine evR_p ?_
  refine evR_e hK ?_; clear hK K
  refine hK8 _ ?_
  refine tr_seq fun K9 hK9 => ?_
  refine tr_region [1, 2, 3, 4, 5, 7, 8, 10, 11, 12] rfl rfl fun K hK => ?_
  refine evR_p ?_
  refine evR_bo ?_
  refine evR_c (hc := (ex_w1 ▸ c30 tgP tg_len.1 tg_len.2.1 tg_len.2.2 [2] (by simp [maxLen]))) (k := ?_)
  iterate 6 refine evR_p ?_
  refine evR_e hK ?_; clear hK K
  refine hK9 _ ?_
  refine tr_seq fun K10 hK10 => ?_
  refine tr_region [1, 2, 3, 4, 5, 7, 8, 10, 11, 12, 14] rfl rfl fun K hK => ?_
  refine evR_p ?_
  refine evR_bo ?_
  refine evR_c (hc := (ex_w2 ▸ c30 exP ex_len.1 ex_len.2.1 ex_len.2.2 [2] (by simp [maxLen]))) (k := ?_)
  iterate 6 refine evR_p ?_
  refine evR_e hK ?_; clear hK K
  refine hK10 _ ?_
  refine tr_seq fun K11 hK11 => ?_
  refine tr_seq fun K12 hK12 => ?_
  refine tr_region [1, 2, 4, 7, 11, 90] rfl rfl fun K hK => ?_
  iterate 3 refine evR_p ?_
  iterate 2 refine evR_g ?_
  iterate 2 refine evR_p ?_
  iterate 2 refine evR_g ?_
  iterate 2 refine evR_p ?_
  iterate 2 refine evR_g ?_
  iterate 2 refine evR_p ?_
  iterate 2 refine evR_g ?_
  iterate 2 refine evR_p ?_
  iterate 2 refine evR_g ?_
  iterate 2 refine evR_p ?_
  iterate 4 refine evR_g ?_
  iterate 2 refine evR_p ?_
  iterate 4 refine evR_g ?_
  refine evR_p ?_
  refine evR_e hK ?_; clear hK K
  refine hK12 _ ?_
  refine tr_condB (fun ht1 => ?_) (fun ht1 => ?_)
  · skip
    (first | (exfalso; omega) | (exfalso; simp_all; done) | skip)
    all_goals
      refine tr_seq fun K13 hK13 => ?_
      refine tr_region [0] rfl rfl fun K hK => ?_
      refine evR_p ?_
      refine evR_e hK ?_; clear hK K
      refine hK13 _ ?_
      refine tr_ret ?_
      (try simp only [thenE, inBlkE])
      simp (maxSteps := 4000000) (disch := first | assumption | omega | (simp only [go_sem, *]; done) | (simp only [go_sem, *]; omega)) only [postA, postO, resV1, fzAll, go_sem, hq, Int.reduceToNat, Nat.reduceBEq, Nat.reduceEqDiff, Nat.reduceAdd, Nat.reduceMul, Nat.reduceLeDiff, Nat.reduceLT, Nat.reduceSub, ↓reduceIte, reduceCtorEq]
      all_goals (simp [ex_all, ex_brk, ex_sum2, ex_gain, k1, k2, ex_v, e13_v, ex_wth])
  · skip
    (first | (exfalso; omega) | (exfalso; simp_all; done) | skip)
    all_goals
      refine tr_skip ?_
      (try simp only [thenE, inBlkE])
      refine hK11 _ ?_
      refine tr_seq fun K14 hK14 => ?_
      refine tr_region [1, 4, 11, 15] rfl rfl fun K hK => ?_
      iterate 3 refine evR_p ?_
      iterate 3 refine evR_g ?_
      iterate 2 refine evR_p ?_
      iterate 3 refine evR_g ?_
      iterate 2 refine evR_p ?_
      iterate 6 refine evR_g ?_
      iterate 2 refine evR_p ?_
      iterate 3 refine evR_g ?_
      iterate 2 refine evR_p ?_
      iterate 3 refine evR_g ?_
      iterate 2 refine evR_p ?_
      iterate 3 refine evR_g ?_
      iterate 2 refine evR_p ?_
      refine evR_e hK ?_; clear hK K
      refine hK14 _ ?_
      refine tr_seq fun K15 hK15 => ?_
      refine tr_region [0] rfl rfl fun K hK => ?_
      iterate 2 refine evR_p ?_
      iterate 2 refine evR_g ?_
      refine evR_gc (hc := (c19 (choiceL exP) [0, 1, 2, 3, 4, 6] (by rw [ex_all]; simp [maxLen]) (by simp [maxLen]))) (k := ?_)
      iterate 2 refine evR_p ?_
      refine evR_g ?_
      refine evR_gc (hc := (c26 exP ex_len.1 ex_len.2.1 ex_len.2.2 5)) (k := ?_)
      refine evR_g ?_
      refine evR_gc (hc := (c19 (brokenW exP 5) [1] (by rw [ex_brk]; simp [maxLen]) (by simp [maxLen]))) (k := ?_)
      iterate 2 refine evR_p ?_
      iterate 4 refine evR_g ?_
      refine evR_gc (hc := (c28 (exP.rows.getD 0 rw0) z2 5)) (k := ?_)
      refine evR_g ?_
      iterate 2 refine evR_p ?_
      refine evR_g ?_
      refine evR_gc (hc := (c24 exP ex_len.1 ex_len.2.1 ex_len.2.2 6)) (k := ?_)
      refine evR_g ?_
      iterate 2 refine evR_p ?_
      refine evR_g ?_
      refine evR_gc (hc := (c22 exP ex_len.1 ex_len.2.1 ex_len.2.2 6)) (k := ?_)
      iterate 2 refine evR_p ?_
      refine evR_g ?_
      refine evR_gc (hc := (c22 exP ex_len.1 ex_len.2.1 ex_len.2.2 5)) (k := ?_)
      refine evR_g ?_
      iterate 2 refine evR_p ?_
      refine evR_g ?_
      refine evR_gc (hc := (c20 exP ex_len.1 ex_len.2.1 ex_len.2.2)) (k := ?_)
      iterate 2 refine evR_p ?_
      refine evR_g ?_
      refine evR_gc (hc := ((c20 ⟨13, [], []⟩ (by simp) (by simp) (by simp)).arg (.cons (.agg (.cons (.refl _) (.cons (.nsl 6) (.cons (.nsl 1) .nil)))) .nil))) (k := ?_)
      refine evR_g ?_
      iterate 2 refine evR_p ?_
      iterate 2 refine evR_g ?_
      refine evR_gc (hc := (c32 (withoutW tgP [2]) exP ex_wlen.1 ex_len.1 ex_wlen.2.1 ex_len.2.1 ex_wlen.2.2 ex_len.2.2)) (k := ?_)
      iterate 2 refine evR_p ?_
      refine evR_e hK ?_; clear hK K
      refine hK15 _ ?_
      refine tr_ret ?_
      (try simp only [thenE, inBlkE])
      simp (maxSteps := 4000000) (disch := first | assumption | omega | (simp only [go_sem, *]; done) | (simp only [go_sem, *]; omega)) only [postA, postO, resV1, fzAll, go_sem, hq, Int.reduceToNat, Nat.reduceBEq, Nat.reduceEqDiff, Nat.reduceAdd, Nat.reduceMul, Nat.reduceLeDiff, Nat.reduceLT, Nat.reduceSub, ↓reduceIte, reduceCtorEq]
      all_goals (simp [ex_all, ex_brk, ex_sum2, ex_gain, k1, k2, ex_v, e13_v, ex_wth])
end

end Go.Proofs.Ytcphhbiehaimeaa

