/- Texts of this proof, put together. -/
import Derived.Test.YtaaongcfeldcoaaDoorKRb
import Derived.Test.YtaaongcfeldcoaaDoorKRc
import Derived.Shelf.Sort.Plain
import Derived.Shelf.Slices.CompactI
import Derived.Ground.NamesProg
import Derived.Ground.Names2Prog
import Derived.Test.YtaaongcfeldcoaaDoorProg
namespace Go.Proofs.YtaaongcfeldcoaaDoor
open Go.RowKit
set_option linter.unusedVariables false
set_option linter.unusedSimpArgs false
set_option maxRecDepth 100000
attribute [local go_sem] Nat.zero_add Nat.add_zero Nat.mul_one eq_self ne_eq not_true_eq_false not_false_eq_true decide_true decide_false decide_not Bool.false_eq_true List.filter_cons List.filter_nil true_and and_true beq_false beq_true Bool.not_true Bool.not_false Bool.and_true Bool.true_and Option.getD_some Option.getD_none imp_self implies_true Int.toNat_natCast List.cons_append List.nil_append List.map_cons List.map_nil List.length_cons List.length_nil List.getD_cons_zero List.getD_cons_succ List.drop_zero List.drop_succ_cons List.take_succ_cons List.take_zero
attribute [local go_sem] lowN lowQ lowM isAl appOwn unw appF isE isO stpO notIn St.bare evO evDO isEff stp St.get St.slot St.put List.lookup un unL ofVal gof nth pickV pkB_false pkB_true binV unV loadV idxV fldV partV buildV fillV lenV sliV appV appR rowsV winV V.parts V.okp V.sc Mem.look_cons Mem.look_nil V.cl V.clL AObj.clo fzAll exps St.fz Mem.fz V.fz V.fzL AObj.fz Option.isSome_some Option.isSome_none Bool.or_true Bool.true_or Bool.or_false Bool.false_or false_and and_false false_or or_false arT_112 arT_22 arT_23 arT_27 arT_28 arT_29 arT_33 arT_52 arT_57 arT_65 arT_76 arT_77 arT_84 arT_88 arT_9 arT_95 boolT_133 boolT_29 boolT_3 boolT_36 boolT_4 boolT_70 boolT_92 flatT_133 flatT_29 flatT_3 flatT_36 flatT_4 flatT_70 flatT_92 intT_121 intT_142 intT_144 intT_145 intT_3 intT_5 lay_110 lay_145 lay_22 lay_23 lay_25 lay_27 lay_28 lay_29 lay_3 lay_31 lay_33 lay_35 lay_4 lay_42 lay_51 lay_56 lay_57 lay_59 lay_70 lay_73 lay_77 lay_79 lay_81 lay_83 lay_84 lay_85 lay_88 lay_92 lay_94 lay_95 okF_10 okF_100 okF_101 okF_102 okF_103 okF_104 okF_105 okF_11 okF_12 okF_122 okF_123 okF_124 okF_125 okF_126 okF_127 okF_13 okF_14 okF_15 okF_16 okF_17 okF_18 okF_19 okF_20 okF_21 okF_22 okF_23 okF_24 okF_25 okF_26 okF_27 okF_28 okF_29 okF_3 okF_30 okF_31 okF_32 okF_33 okF_34 okF_35 okF_36 okF_37 okF_38 okF_39 okF_4 okF_40 okF_41 okF_42 okF_43 okF_44 okF_45 okF_46 okF_47 okF_48 okF_49 okF_5 okF_50 okF_51 okF_52 okF_53 okF_54 okF_55 okF_56 okF_57 okF_58 okF_59 okF_6 okF_60 okF_61 okF_62 okF_63 okF_64 okF_65 okF_66 okF_67 okF_68 okF_69 okF_7 okF_70 okF_71 okF_72 okF_73 okF_74 okF_75 okF_76 okF_77 okF_78 okF_79 okF_8 okF_80 okF_81 okF_82 okF_83 okF_84 okF_85 okF_86 okF_87 okF_88 okF_89 okF_9 okF_90 okF_91 okF_92 okF_93 okF_94 okF_95 okF_96 okF_97 okF_98 okF_99 plT_31 plT_35 plT_51 plT_56 plT_59 plT_70 plT_73 plT_90 plT_92 plT_95 slT_112 slT_22 slT_23 slT_27 slT_28 slT_29 slT_33 slT_52 slT_57 slT_65 slT_76 slT_77 slT_88 slT_95 stT_25_0 stT_25_1 stT_25_2 stT_25_3 stT_25_4 stT_31_0 stT_31_1 stT_31_2 stT_31_3 stT_35_0 stT_35_1 stT_35_2 stT_35_3 stT_51_0 stT_51_1 stT_56_0 stT_56_1 stT_56_2 stT_56_3 stT_59_0 stT_59_1 stT_59_2 stT_73_0 stT_73_3 stT_73_4 stT_73_5 stT_79_0 stT_79_1 stT_79_2 stT_83_0 stT_90_0 stT_90_1 stT_90_2 stT_90_3 strT_76 strT_77 strT_84 strT_9 zeroT_112 zeroT_145 zeroT_3 zeroT_31 zeroT_33 zeroT_35 zeroT_42 zeroT_51 zeroT_56 zeroT_57 zeroT_59 zeroT_70 zeroT_73 zeroT_79 zeroT_83 zeroT_90 zeroT_92 zeroT_95
attribute [local go_sem] List.getElem?_cons_zero List.getElem?_cons_succ List.zip_cons_cons List.zip_nil_left List.zip_nil_right Bool.false_and Bool.and_false List.length_append List.length_set List.length_replicate List.all_cons List.all_nil encI_length encI_getD encR_length encR_getD encRw encPg spl shp AObj.shp rowM isSt isRpS isRd csh AObj.csh forall_const imp_self
attribute [local go_sem] encHr encOf encSp encP2 encSps_length encOfs_length encP2s_length encSps_getD encOfs_getD encP2s_getD
attribute [local simp] encI_length encR_length cellsI_length encSps_length encOfs_length encP2s_length
theorem k36 (n lo hi : Int) : CallsA Tryd.prog 36 [.int .i64 n, .int .i64 lo, .int .i64 hi] (.bool (isInB n lo hi)) := by
  have hq : True := trivial
  refine callsA_of_tr Tryd.func36 rfl (Nat.le_of_ble_eq_true rfl) ?_
  simp only [Tryd.results36, envOf, Nat.reduceAdd]
  refine tr_seq fun K1 hK1 => ?_
  refine tr_region [0, 1, 2] rfl rfl fun K hK => ?_
  refine evR_p ?_
  refine evR_e hK ?_; clear hK K
  refine hK1 _ ?_
  refine tr_seq fun K2 hK2 => ?_
  refine tr_region [6] rfl rfl fun K hK => ?_
  iterate 4 refine evR_p ?_
  iterate 3 refine evR_g ?_
  iterate 2 refine evR_p ?_
  refine evR_e hK ?_; clear hK K
  refine hK2 _ ?_
  refine tr_ret ?_
  (try simp only [thenE, inBlkE])
  simp (maxSteps := 4000000) (disch := first | assumption | omega | (simp only [go_sem, *]; done) | (simp only [go_sem, *]; omega)) only [postA, postO, resV1, fzAll, go_sem, hq, Int.reduceToNat, Nat.reduceBEq, Nat.reduceEqDiff, Nat.reduceAdd, Nat.reduceMul, Nat.reduceLeDiff, Nat.reduceLT, Nat.reduceSub, ↓reduceIte, reduceCtorEq]
  all_goals (simp [isInB])

theorem k31 (n : Int) : CallsA Tryd.prog 31 [.int .i64 n] (.bool (isInB n 0 11)) := by
  have hq : True := trivial
  refine callsA_of_tr Tryd.func31 rfl (Nat.le_of_ble_eq_true rfl) ?_
  simp only [Tryd.results31, envOf, Nat.reduceAdd]
  refine tr_seq fun K1 hK1 => ?_
  refine tr_region [0] rfl rfl fun K hK => ?_
  refine evR_p ?_
  refine evR_e hK ?_; clear hK K
  refine hK1 _ ?_
  refine tr_seq fun K2 hK2 => ?_
  refine tr_region [2] rfl rfl fun K hK => ?_
  refine evR_p ?_
  refine evR_c (hc := (k36 _ _ _)) (k := ?_)
  refine evR_p ?_
  refine evR_e hK ?_; clear hK K
  refine hK2 _ ?_
  refine tr_ret ?_
  (try simp only [thenE, inBlkE])
  simp (maxSteps := 4000000) (disch := first | assumption | omega | (simp only [go_sem, *]; done) | (simp only [go_sem, *]; omega)) only [postA, postO, resV1, fzAll, go_sem, hq, Int.reduceToNat, Nat.reduceBEq, Nat.reduceEqDiff, Nat.reduceAdd, Nat.reduceMul, Nat.reduceLeDiff, Nat.reduceLT, Nat.reduceSub, ↓reduceIte, reduceCtorEq]
  all_goals (skip)

theorem k29 (h : Hr) (s : Int) (ho : h.offers.length ≤ 12) : CallsA Tryd.prog 29 [.agg (encHr h), .int .i64 s] (.bool (choiceH h s)) := by
  have hsh := shl1 (n := h.offers.length) (by omega)
  have hpw : 2 ^ h.offers.length ≤ 2 ^ 12 := Nat.pow_le_pow_right (by omega) ho
  have hpp := Nat.two_pow_pos h.offers.length
  have hw : IntKind.i64.wrap (((2 ^ h.offers.length : Nat) : Int) - 1) = ((2 ^ h.offers.length : Nat) : Int) - 1 := w64 (by omega)
  have hq := And.intro hsh (hw)
  refine callsA_of_tr Tryd.func29 rfl (Nat.le_of_ble_eq_true rfl) ?_
  simp only [Tryd.results29, envOf, Nat.reduceAdd]
  refine tr_seq fun K1 hK1 => ?_
  refine tr_region [1, 2] rfl rfl fun K hK => ?_
  iterate 2 refine evR_p ?_
  refine evR_e hK ?_; clear hK K
  refine hK1 _ ?_
  refine tr_seq fun K2 hK2 => ?_
  refine tr_region [4] rfl rfl fun K hK => ?_
  iterate 6 refine evR_p ?_
  refine evR_c (hc := (k36 _ _ _)) (k := ?_)
  refine evR_p ?_
  refine evR_e hK ?_; clear hK K
  refine hK2 _ ?_
  refine tr_ret ?_
  (try simp only [thenE, inBlkE])
  simp (maxSteps := 4000000) (disch := first | assumption | omega | (simp only [go_sem, *]; done) | (simp only [go_sem, *]; omega)) only [postA, postO, resV1, fzAll, go_sem, hq, Int.reduceToNat, Nat.reduceBEq, Nat.reduceEqDiff, Nat.reduceAdd, Nat.reduceMul, Nat.reduceLeDiff, Nat.reduceLT, Nat.reduceSub, ↓reduceIte, reduceCtorEq]
  all_goals (rfl)

theorem k35 (o : Of) (h : Hr) (hr : h.rooms.length ≤ maxLen) : CallsA Tryd.prog 35 [.agg (encOf o), .ep (encHr h)] (.bool (!ofOk h.rooms.length o)) := by
  unfold maxLen at hr
  have hw : IntKind.i64.wrap ((h.rooms.length : Int) - 1) = (h.rooms.length : Int) - 1 := w64 (by omega)
  have hq := hw
  refine callsA_of_tr Tryd.func35 rfl (Nat.le_of_ble_eq_true rfl) ?_
  simp only [Tryd.results35, envOf, Nat.reduceAdd]
  refine tr_seq fun K1 hK1 => ?_
  refine tr_region [1, 2] rfl rfl fun K hK => ?_
  iterate 2 refine evR_p ?_
  refine evR_e hK ?_; clear hK K
  refine hK1 _ ?_
  refine tr_seq fun K2 hK2 => ?_
  refine tr_region [3] rfl rfl fun K hK => ?_
  iterate 2 refine evR_p ?_
  refine evR_c (hc := (k31 _)) (k := ?_)
  iterate 2 refine evR_p ?_
  iterate 6 refine evR_g ?_
  refine evR_gc (hc := (k36 _ _ _)) (k := ?_)
  refine evR_g ?_
  iterate 2 refine evR_p ?_
  iterate 2 refine evR_g ?_
  refine evR_gc (hc := (k36 _ _ _)) (k := ?_)
  refine evR_g ?_
  iterate 2 refine evR_p ?_
  iterate 2 refine evR_g ?_
  refine evR_gc (hc := (k36 _ _ _)) (k := ?_)
  refine evR_g ?_
  iterate 2 refine evR_p ?_
  refine evR_e hK ?_; clear hK K
  refine hK2 _ ?_
  refine tr_ret ?_
  (try simp only [thenE, inBlkE])
  simp (maxSteps := 4000000) (disch := first | assumption | omega | (simp only [go_sem, *]; done) | (simp only [go_sem, *]; omega)) only [postA, postO, resV1, fzAll, go_sem, hq, Int.reduceToNat, Nat.reduceBEq, Nat.reduceEqDiff, Nat.reduceAdd, Nat.reduceMul, Nat.reduceLeDiff, Nat.reduceLT, Nat.reduceSub, ↓reduceIte, reduceCtorEq]
  all_goals (simp [ofOk, Bool.or_assoc])

theorem k37 (a : P2) : CallsA Tryd.prog 37 [.agg (encP2 a)] (.bool (!p2Ok a)) := by
  have hq : True := trivial
  refine callsA_of_tr Tryd.func37 rfl (Nat.le_of_ble_eq_true rfl) ?_
  simp only [Tryd.results37, envOf, Nat.reduceAdd]
  refine tr_seq fun K1 hK1 => ?_
  refine tr_region [1] rfl rfl fun K hK => ?_
  iterate 2 refine evR_p ?_
  refine evR_e hK ?_; clear hK K
  refine hK1 _ ?_
  refine tr_seq fun K2 hK2 => ?_
  refine tr_region [2] rfl rfl fun K hK => ?_
  iterate 4 refine evR_p ?_
  iterate 5 refine evR_g ?_
  iterate 2 refine evR_p ?_
  iterate 2 refine evR_g ?_
  refine evR_gc (hc := (k31 _)) (k := ?_)
  refine evR_g ?_
  iterate 2 refine evR_p ?_
  refine evR_e hK ?_; clear hK K
  refine hK2 _ ?_
  refine tr_ret ?_
  (try simp only [thenE, inBlkE])
  simp (maxSteps := 4000000) (disch := first | assumption | omega | (simp only [go_sem, *]; done) | (simp only [go_sem, *]; omega)) only [postA, postO, resV1, fzAll, go_sem, hq, Int.reduceToNat, Nat.reduceBEq, Nat.reduceEqDiff, Nat.reduceAdd, Nat.reduceMul, Nat.reduceLeDiff, Nat.reduceLT, Nat.reduceSub, ↓reduceIte, reduceCtorEq]
  all_goals ((refine congrArg V.bool ?_; rw [Bool.eq_iff_iff]; simp [p2Ok, isInB]; omega))

theorem k41 (n : Int) : CallsA Tryd.prog 41 [.int .i64 n] (.bool (!isInB n 0 11)) := by
  have hq : True := trivial
  refine callsA_of_tr Tryd.func41 rfl (Nat.le_of_ble_eq_true rfl) ?_
  simp only [Tryd.results41, envOf, Nat.reduceAdd]
  refine tr_seq fun K1 hK1 => ?_
  refine tr_region [0] rfl rfl fun K hK => ?_
  refine evR_p ?_
  refine evR_e hK ?_; clear hK K
  refine hK1 _ ?_
  refine tr_seq fun K2 hK2 => ?_
  refine tr_region [2] rfl rfl fun K hK => ?_
  refine evR_p ?_
  refine evR_c (hc := (k31 _)) (k := ?_)
  iterate 2 refine evR_p ?_
  refine evR_e hK ?_; clear hK K
  refine hK2 _ ?_
  refine tr_ret ?_
  (try simp only [thenE, inBlkE])
  simp (maxSteps := 4000000) (disch := first | assumption | omega | (simp only [go_sem, *]; done) | (simp only [go_sem, *]; omega)) only [postA, postO, resV1, fzAll, go_sem, hq, Int.reduceToNat, Nat.reduceBEq, Nat.reduceEqDiff, Nat.reduceAdd, Nat.reduceMul, Nat.reduceLeDiff, Nat.reduceLT, Nat.reduceSub, ↓reduceIte, reduceCtorEq]
  all_goals (skip)

theorem k44 (x y : Int) : CallsA Tryd.prog 44 [.int .i64 x, .int .i64 y] (.int .i64 (cmpI x y)) := by
  have hq : True := trivial
  refine callsA_of_tr Tryd.func44 rfl (Nat.le_of_ble_eq_true rfl) ?_
  simp only [Tryd.results44, envOf, Nat.reduceAdd]
  refine tr_seq fun K1 hK1 => ?_
  refine tr_region [0, 1] rfl rfl fun K hK => ?_
  refine evR_p ?_
  refine evR_e hK ?_; clear hK K
  refine hK1 _ ?_
  refine tr_seq fun K2 hK2 => ?_
  refine tr_region [0, 1, 5] rfl rfl fun K hK => ?_
  refine evR_p ?_
  refine evR_c (hc := (c74 _)) (k := ?_)
  refine evR_p ?_
  refine evR_e hK ?_; clear hK K
  refine hK2 _ ?_
  refine tr_seq fun K3 hK3 => ?_
  refine tr_region [0, 1, 5, 6] rfl rfl fun K hK => ?_
  refine evR_p ?_
  refine evR_c (hc := (c74 _)) (k := ?_)
  refine evR_p ?_
  refine evR_e hK ?_; clear hK K
  refine hK3 _ ?_
  refine tr_seq fun K4 hK4 => ?_
  refine tr_seq fun K5 hK5 => ?_
  refine tr_region [0, 1, 6, 11] rfl rfl fun K hK => ?_
  refine evR_p ?_
  refine evR_e hK ?_; clear hK K
  refine hK5 _ ?_
  refine tr_condB (fun ht1 => ?_) (fun ht1 => ?_)
  · skip
    (first | (exfalso; simp_all; done) | skip)
    all_goals
      refine tr_seq fun K6 hK6 => ?_
      refine tr_seq fun K7 hK7 => ?_
      refine tr_region [12] rfl rfl fun K hK => ?_
      refine evR_p ?_
      refine evR_e hK ?_; clear hK K
      refine hK7 _ ?_
      refine tr_condB (fun ht2 => ?_) (fun ht2 => ?_)
      · skip
        (first | (exfalso; simp_all; done) | skip)
        all_goals
          refine tr_seq fun K8 hK8 => ?_
          refine tr_region [4] rfl rfl fun K hK => ?_
          refine evR_p ?_
          refine evR_e hK ?_; clear hK K
          refine hK8 _ ?_
          refine tr_ret ?_
          (try simp only [thenE, inBlkE])
          simp (maxSteps := 4000000) (disch := first | assumption | omega | (simp only [go_sem, *]; done) | (simp only [go_sem, *]; omega)) only [postA, postO, resV1, fzAll, go_sem, hq, Int.reduceToNat, Nat.reduceBEq, Nat.reduceEqDiff, Nat.reduceAdd, Nat.reduceMul, Nat.reduceLeDiff, Nat.reduceLT, Nat.reduceSub, ↓reduceIte, reduceCtorEq]
          all_goals ((unfold cmpI; first | (rw [if_pos (by assumption)]; done) | (rw [if_neg (by assumption), if_pos (by assumption)]; done) | (rw [if_neg (by assumption), if_neg (by assumption)]; done)))
      · skip
        (first | (exfalso; simp_all; done) | skip)
        all_goals
          refine tr_skip ?_
          (try simp only [thenE, inBlkE])
          refine hK6 _ ?_
          refine tr_seq fun K9 hK9 => ?_
          refine tr_region [4] rfl rfl fun K hK => ?_
          refine evR_p ?_
          refine evR_e hK ?_; clear hK K
          refine hK9 _ ?_
          refine tr_ret ?_
          (try simp only [thenE, inBlkE])
          simp (maxSteps := 4000000) (disch := first | assumption | omega | (simp only [go_sem, *]; done) | (simp only [go_sem, *]; omega)) only [postA, postO, resV1, fzAll, go_sem, hq, Int.reduceToNat, Nat.reduceBEq, Nat.reduceEqDiff, Nat.reduceAdd, Nat.reduceMul, Nat.reduceLeDiff, Nat.reduceLT, Nat.reduceSub, ↓reduceIte, reduceCtorEq]
          all_goals ((unfold cmpI; first | (rw [if_pos (by assumption)]; done) | (rw [if_neg (by assumption), if_pos (by assumption)]; done) | (rw [if_neg (by assumption), if_neg (by assumption)]; done)))
  · skip
    (first | (exfalso; simp_all; done) | skip)
    all_goals
      refine tr_skip ?_
      (try simp only [thenE, inBlkE])
      refine hK4 _ ?_
      refine tr_seq fun K10 hK10 => ?_
      refine tr_seq fun K11 hK11 => ?_
      refine tr_region [0, 1, 13] rfl rfl fun K hK => ?_
      refine evR_p ?_
      refine evR_e hK ?_; clear hK K
      refine hK11 _ ?_
      refine tr_condB (fun ht3 => ?_) (fun ht3 => ?_)
      · skip
        (first | (exfalso; simp_all; done) | skip)
        all_goals
          refine tr_seq fun K12 hK12 => ?_
          refine tr_region [4] rfl rfl fun K hK => ?_
          refine evR_p ?_
          refine evR_e hK ?_; clear hK K
          refine hK12 _ ?_
          refine tr_ret ?_
          (try simp only [thenE, inBlkE])
          simp (maxSteps := 4000000) (disch := first | assumption | omega | (simp only [go_sem, *]; done) | (simp only [go_sem, *]; omega)) only [postA, postO, resV1, fzAll, go_sem, hq, Int.reduceToNat, Nat.reduceBEq, Nat.reduceEqDiff, Nat.reduceAdd, Nat.reduceMul, Nat.reduceLeDiff, Nat.reduceLT, Nat.reduceSub, ↓reduceIte, reduceCtorEq]
          all_goals ((unfold cmpI; first | (rw [if_pos (by assumption)]; done) | (rw [if_neg (by assumption), if_pos (by assumption)]; done) | (rw [if_neg (by assumption), if_neg (by assumption)]; done)))
      · skip
        (first | (exfalso; simp_all; done) | skip)
        all_goals
          refine tr_skip ?_
          (try simp only [thenE, inBlkE])
          refine hK10 _ ?_
          refine tr_seq fun K13 hK13 => ?_
          refine tr_seq fun K14 hK14 => ?_
          refine tr_region [0, 1, 16] rfl rfl fun K hK => ?_
          iterate 3 refine evR_p ?_
          refine evR_e hK ?_; clear hK K
          refine hK14 _ ?_
          refine tr_condB (fun ht4 => ?_) (fun ht4 => ?_)
          · skip
            (first | (exfalso; simp_all; done) | skip)
            all_goals
              refine tr_seq fun K15 hK15 => ?_
              refine tr_region [4] rfl rfl fun K hK => ?_
              refine evR_p ?_
              refine evR_e hK ?_; clear hK K
              refine hK15 _ ?_
              refine tr_ret ?_
              (try simp only [thenE, inBlkE])
              simp (maxSteps := 4000000) (disch := first | assumption | omega | (simp only [go_sem, *]; done) | (simp only [go_sem, *]; omega)) only [postA, postO, resV1, fzAll, go_sem, hq, Int.reduceToNat, Nat.reduceBEq, Nat.reduceEqDiff, Nat.reduceAdd, Nat.reduceMul, Nat.reduceLeDiff, Nat.reduceLT, Nat.reduceSub, ↓reduceIte, reduceCtorEq]
              all_goals ((unfold cmpI; first | (rw [if_pos (by assumption)]; done) | (rw [if_neg (by assumption), if_pos (by assumption)]; done) | (rw [if_neg (by assumption), if_neg (by assumption)]; done)))
          · skip
            (first | (exfalso; simp_all; done) | skip)
            all_goals
              refine tr_skip ?_
              (try simp only [thenE, inBlkE])
              refine hK13 _ ?_
              refine tr_seq fun K16 hK16 => ?_
              refine tr_seq fun K17 hK17 => ?_
              refine tr_region [19] rfl rfl fun K hK => ?_
              iterate 3 refine evR_p ?_
              refine evR_e hK ?_; clear hK K
              refine hK17 _ ?_
              refine tr_condB (fun ht5 => ?_) (fun ht5 => ?_)
              · skip
                (first | (exfalso; simp_all; done) | skip)
                all_goals
                  refine tr_seq fun K18 hK18 => ?_
                  refine tr_region [4] rfl rfl fun K hK => ?_
                  refine evR_p ?_
                  refine evR_e hK ?_; clear hK K
                  refine hK18 _ ?_
                  refine tr_ret ?_
                  (try simp only [thenE, inBlkE])
                  simp (maxSteps := 4000000) (disch := first | assumption | omega | (simp only [go_sem, *]; done) | (simp only [go_sem, *]; omega)) only [postA, postO, resV1, fzAll, go_sem, hq, Int.reduceToNat, Nat.reduceBEq, Nat.reduceEqDiff, Nat.reduceAdd, Nat.reduceMul, Nat.reduceLeDiff, Nat.reduceLT, Nat.reduceSub, ↓reduceIte, reduceCtorEq]
                  all_goals ((unfold cmpI; first | (rw [if_pos (by assumption)]; done) | (rw [if_neg (by assumption), if_pos (by assumption)]; done) | (rw [if_neg (by assumption), if_neg (by assumption)]; done)))
              · skip
                (first | (exfalso; simp_all; done) | skip)
                all_goals
                  refine tr_skip ?_
                  (try simp only [thenE, inBlkE])
                  refine hK16 _ ?_
                  refine tr_seq fun K19 hK19 => ?_
                  refine tr_region [4] rfl rfl fun K hK => ?_
                  refine evR_p ?_
                  refine evR_e hK ?_; clear hK K
                  refine hK19 _ ?_
                  refine tr_ret ?_
                  (try simp only [thenE, inBlkE])
                  simp (maxSteps := 4000000) (disch := first | assumption | omega | (simp only [go_sem, *]; done) | (simp only [go_sem, *]; omega)) only [postA, postO, resV1, fzAll, go_sem, hq, Int.reduceToNat, Nat.reduceBEq, Nat.reduceEqDiff, Nat.reduceAdd, Nat.reduceMul, Nat.reduceLeDiff, Nat.reduceLT, Nat.reduceSub, ↓reduceIte, reduceCtorEq]
                  all_goals ((unfold cmpI; first | (rw [if_pos (by assumption)]; done) | (rw [if_neg (by assumption), if_pos (by assumption)]; done) | (rw [if_neg (by assumption), if_neg (by assumption)]; done)))

theorem k43 (a b : Int) : CallsA Tryd.prog 43 [.sl 1 (encI [a, b])] (.int .i64 (if a ≠ 0 then a else b)) := by
  have hq : True := trivial
  refine callsA_of_tr Tryd.func43 rfl (Nat.le_of_ble_eq_true rfl) ?_
  simp only [Tryd.results43, envOf, Nat.reduceAdd]
  refine tr_seq fun K1 hK1 => ?_
  refine tr_region [0] rfl rfl fun K hK => ?_
  refine evR_p ?_
  refine evR_e hK ?_; clear hK K
  refine hK1 _ ?_
  refine tr_seq fun K2 hK2 => ?_
  refine tr_region [0, 3] rfl rfl fun K hK => ?_
  refine evR_p ?_
  refine evR_e hK ?_; clear hK K
  refine hK2 _ ?_
  refine tr_seq fun K3 hK3 => ?_
  refine tr_seq fun K4 hK4 => ?_
  refine tr_region [3, 6, 7, 8] rfl rfl fun K hK => ?_
  iterate 3 refine evR_p ?_
  refine evR_e hK ?_; clear hK K
  refine hK4 _ ?_
  refine tr_block ?_
  -- loop 1: live [3, 6, 7, 8]
  refine tr_loopW (fun m σ => ∃ i : Nat, i + m = 2 ∧ (0 < i → a = 0) ∧ (1 < i → b = 0) ∧ σ = ⟨[(3, .int .i64 0), (6, .sl 1 (encI [a, b])), (7, .int .i64 2), (8, .int .i64 (i : Nat))], [], 0⟩) (2) ?_ ?_
  · exact ⟨_, Wk.refl _, 0, by omega, by omega, by omega, rfl⟩
  · rintro m σ ⟨i, hi, hia, hib, rfl⟩ KL1 hKL1
    refine tr_seq fun K5 hK5 => ?_
    refine tr_region [3, 6, 7, 8, 9] rfl rfl fun K hK => ?_
    refine evR_p ?_
    refine evR_e hK ?_; clear hK K
    refine hK5 _ ?_
    refine tr_seq fun K6 hK6 => ?_
    refine tr_condB (fun ht1 => ?_) (fun ht1 => ?_)
    · skip
      have hil : i < 2 := by omega
      have hg : [a, b].getD i 0 = if i = 0 then a else b := by match i, hil with | 0, _ => rfl | 1, _ => rfl
      replace hq := And.intro hq (And.intro hil (hg))
      refine tr_skip ?_
      (try simp only [thenE, inBlkE])
      refine hK6 _ ?_
      refine tr_seq fun K7 hK7 => ?_
      refine tr_block ?_
      refine tr_seq fun K8 hK8 => ?_
      refine tr_region [3, 5, 6, 7, 8] rfl rfl fun K hK => ?_
      iterate 3 refine evR_p ?_
      refine evR_e hK ?_; clear hK K
      refine hK8 _ ?_
      refine tr_seq fun K9 hK9 => ?_
      refine tr_region [3, 5, 6, 7, 8, 14] rfl rfl fun K hK => ?_
      iterate 3 refine evR_p ?_
      refine evR_e hK ?_; clear hK K
      refine hK9 _ ?_
      refine tr_condB (fun ht2 => ?_) (fun ht2 => ?_)
      · skip
        refine tr_seq fun K10 hK10 => ?_
        refine tr_region [2] rfl rfl fun K hK => ?_
        iterate 2 refine evR_p ?_
        refine evR_e hK ?_; clear hK K
        refine hK10 _ ?_
        refine tr_ret ?_
        (try simp only [thenE, inBlkE])
        simp (maxSteps := 4000000) (disch := first | assumption | omega | (simp only [go_sem, *]; done) | (simp only [go_sem, *]; omega)) only [postA, postO, resV1, fzAll, go_sem, hq, Int.reduceToNat, Nat.reduceBEq, Nat.reduceEqDiff, Nat.reduceAdd, Nat.reduceMul, Nat.reduceLeDiff, Nat.reduceLT, Nat.reduceSub, ↓reduceIte, reduceCtorEq]
        all_goals (first | (have h0 := hia (by omega); have h1 := hib (by omega); simp [h0, h1]; done) | (rcases (show i = 0 ∨ i = 1 by omega) with rfl | rfl; (have h3 : a ≠ 0 := by simpa using ht2); simp [h3]; (have h3 : a = 0 := hia (by omega)); simp [h3]; done))
      · skip
        refine tr_skip ?_
        (try simp only [thenE, inBlkE])
        refine hK7 _ ?_
        refine tr_region [3, 6, 7, 8] rfl rfl fun K hK => ?_
        iterate 2 refine evR_p ?_
        refine evR_e hK ?_; clear hK K
        refine hKL1 _ ?_
        exact ⟨m - 1, _, by omega, Wk.refl _, i + 1, by omega, (by intro _; rcases (show i = 0 ∨ i = 1 by omega) with rfl | rfl; (simpa using ht2); (exact hia (by omega))), (by intro _; rcases (show i = 0 ∨ i = 1 by omega) with rfl | rfl; omega; (simpa using ht2)), by rw [w64 (x := (i : Int) + 1) (by omega)]; rfl⟩
    · skip
      have hil : i = 2 := by omega
      refine tr_exit ?_
      simp only [thenE, inBlkE, Nat.reduceEqDiff, ↓reduceIte]
      refine hK3 _ ?_
      refine tr_seq fun K11 hK11 => ?_
      refine tr_region [2] rfl rfl fun K hK => ?_
      iterate 2 refine evR_p ?_
      refine evR_e hK ?_; clear hK K
      refine hK11 _ ?_
      refine tr_ret ?_
      (try simp only [thenE, inBlkE])
      simp (maxSteps := 4000000) (disch := first | assumption | omega | (simp only [go_sem, *]; done) | (simp only [go_sem, *]; omega)) only [postA, postO, resV1, fzAll, go_sem, hq, Int.reduceToNat, Nat.reduceBEq, Nat.reduceEqDiff, Nat.reduceAdd, Nat.reduceMul, Nat.reduceLeDiff, Nat.reduceLT, Nat.reduceSub, ↓reduceIte, reduceCtorEq]
      all_goals (first | (have h0 := hia (by omega); have h1 := hib (by omega); simp [h0, h1]; done) | (rcases (show i = 0 ∨ i = 1 by omega) with rfl | rfl; (have h3 : a ≠ 0 := by simpa using ht2); simp [h3]; (have h3 : a = 0 := hia (by omega)); simp [h3]; done))

theorem k42 (a b : Of) : CallsA Tryd.prog 42 [.agg (encOf a), .agg (encOf b)] (.int .i64 (ofCmp a b)) := by
  have hq : True := trivial
  refine callsA_of_tr Tryd.func42 rfl (Nat.le_of_ble_eq_true rfl) ?_
  simp only [Tryd.results42, envOf, Nat.reduceAdd]
  refine tr_seq fun K1 hK1 => ?_
  refine tr_region [2, 3] rfl rfl fun K hK => ?_
  iterate 3 refine evR_p ?_
  refine evR_e hK ?_; clear hK K
  refine hK1 _ ?_
  refine tr_seq fun K2 hK2 => ?_
  refine tr_draw [15] [4] mixed rfl (by kernel_rfl) rfl fun K hK => ?_
  iterate 4 refine evD_p ?_
  refine evD_c (hc := (k44 _ _)) (k := ?_)
  iterate 4 refine evD_p ?_
  refine evD_c (hc := (k44 _ _)) (k := ?_)
  refine evD_bs ?_
  refine evD_c (hc := (k43 _ _)) (k := ?_)
  refine evD_p ?_
  refine evD_e hK ?_; clear hK K
  refine hK2 _ ?_
  refine tr_ret ?_
  (try simp only [thenE, inBlkE])
  simp (maxSteps := 4000000) (disch := first | assumption | omega | (simp only [go_sem, *]; done) | (simp only [go_sem, *]; omega)) only [postA, postO, resV1, fzAll, go_sem, hq, Int.reduceToNat, Nat.reduceBEq, Nat.reduceEqDiff, Nat.reduceAdd, Nat.reduceMul, Nat.reduceLeDiff, Nat.reduceLT, Nat.reduceSub, ↓reduceIte, reduceCtorEq]
  all_goals (rfl)

theorem k66 (xs : List Of) (f : FuncId) (caps : List V) (p : Of → Bool) (hf : okF Tryd.prog f = true) (hcl : V.clL caps = true) (hp : ∀ x ∈ xs, CallsA Tryd.prog f (.agg (encOf x) :: caps) (.bool (p x))) (hm : xs.length ≤ maxLen) : CallsA Tryd.prog 66 [.sl 4 (encOfs xs), .fn f caps] (.int .i64 (idxOf p xs)) := by
  unfold maxLen at hm
  have hq := hcl
  refine callsA_of_tr Tryd.func66 rfl (Nat.le_of_ble_eq_true rfl) ?_
  simp only [Tryd.results66, envOf, Nat.reduceAdd]
  refine tr_seq fun K1 hK1 => ?_
  refine tr_region [0, 1] rfl rfl fun K hK => ?_
  refine evR_p ?_
  refine evR_e hK ?_; clear hK K
  refine hK1 _ ?_
  refine tr_seq fun K2 hK2 => ?_
  refine tr_seq fun K3 hK3 => ?_
  refine tr_region [0, 1, 7, 8] rfl rfl fun K hK => ?_
  iterate 3 refine evR_p ?_
  refine evR_e hK ?_; clear hK K
  refine hK3 _ ?_
  refine tr_block ?_
  -- loop 1: live [0, 1, 7, 8]
  refine tr_loopW (fun m σ => ∃ i, i + m = xs.length ∧ (∀ j, j < i → p (xs.getD j of0) = false) ∧ σ = ⟨[(0, .sl 4 (encOfs xs)), (1, .fn f caps), (7, .int .i64 xs.length), (8, .int .i64 (i : Nat))], [], 0⟩) (xs.length) ?_ ?_
  · exact ⟨_, Wk.refl _, 0, by omega, (by intro j hj; omega), rfl⟩
  · rintro m σ ⟨i, hi, hpi, rfl⟩ KL1 hKL1
    refine tr_seq fun K4 hK4 => ?_
    refine tr_region [0, 1, 7, 8, 9] rfl rfl fun K hK => ?_
    refine evR_p ?_
    refine evR_e hK ?_; clear hK K
    refine hK4 _ ?_
    refine tr_seq fun K5 hK5 => ?_
    refine tr_condB (fun ht1 => ?_) (fun ht1 => ?_)
    · skip
      have hil : i < xs.length := by omega
      replace hq := And.intro hq (hil)
      refine tr_skip ?_
      (try simp only [thenE, inBlkE])
      refine hK5 _ ?_
      refine tr_seq fun K6 hK6 => ?_
      refine tr_block ?_
      refine tr_seq fun K7 hK7 => ?_
      refine tr_region [0, 1, 5, 7, 8] rfl rfl fun K hK => ?_
      iterate 2 refine evR_p ?_
      refine evR_e hK ?_; clear hK K
      refine hK7 _ ?_
      refine tr_seq fun K8 hK8 => ?_
      refine tr_region [0, 1, 5, 7, 8, 16] rfl rfl fun K hK => ?_
      iterate 5 refine evR_p ?_
      refine evR_c (hc := (hp _ (getD_mem hil))) (k := ?_)
      refine evR_e hK ?_; clear hK K
      refine hK8 _ ?_
      refine tr_condB (fun ht2 => ?_) (fun ht2 => ?_)
      · skip
        refine tr_seq fun K9 hK9 => ?_
        refine tr_region [4] rfl rfl fun K hK => ?_
        iterate 2 refine evR_p ?_
        refine evR_e hK ?_; clear hK K
        refine hK9 _ ?_
        refine tr_ret ?_
        (try simp only [thenE, inBlkE])
        simp (maxSteps := 4000000) (disch := first | assumption | omega | (simp only [go_sem, *]; done) | (simp only [go_sem, *]; omega)) only [postA, postO, resV1, fzAll, go_sem, hq, Int.reduceToNat, Nat.reduceBEq, Nat.reduceEqDiff, Nat.reduceAdd, Nat.reduceMul, Nat.reduceLeDiff, Nat.reduceLT, Nat.reduceSub, ↓reduceIte, reduceCtorEq]
        all_goals (first | (rw [idxOf_at p of0 xs i hil hpi (by assumption)]; done) | (rw [idxOf_none p xs (all_false of0 hpi (by omega))]; done))
      · skip
        refine tr_skip ?_
        (try simp only [thenE, inBlkE])
        refine hK6 _ ?_
        refine tr_region [0, 1, 7, 8] rfl rfl fun K hK => ?_
        iterate 2 refine evR_p ?_
        refine evR_e hK ?_; clear hK K
        refine hKL1 _ ?_
        exact ⟨m - 1, _, by omega, Wk.refl _, i + 1, by omega, step_false hpi (by assumption), by rw [w64 (by omega)]; rfl⟩
    · skip
      have hil : i = xs.length := by omega
      refine tr_exit ?_
      simp only [thenE, inBlkE, Nat.reduceEqDiff, ↓reduceIte]
      refine hK2 _ ?_
      refine tr_seq fun K10 hK10 => ?_
      refine tr_region [4] rfl rfl fun K hK => ?_
      refine evR_p ?_
      refine evR_e hK ?_; clear hK K
      refine hK10 _ ?_
      refine tr_ret ?_
      (try simp only [thenE, inBlkE])
      simp (maxSteps := 4000000) (disch := first | assumption | omega | (simp only [go_sem, *]; done) | (simp only [go_sem, *]; omega)) only [postA, postO, resV1, fzAll, go_sem, hq, Int.reduceToNat, Nat.reduceBEq, Nat.reduceEqDiff, Nat.reduceAdd, Nat.reduceMul, Nat.reduceLeDiff, Nat.reduceLT, Nat.reduceSub, ↓reduceIte, reduceCtorEq]
      all_goals (first | (rw [idxOf_at p of0 xs i hil hpi (by assumption)]; done) | (rw [idxOf_none p xs (all_false of0 hpi (by omega))]; done))

theorem k67 (xs : List P2) (f : FuncId) (caps : List V) (p : P2 → Bool) (hf : okF Tryd.prog f = true) (hcl : V.clL caps = true) (hp : ∀ x ∈ xs, CallsA Tryd.prog f (.agg (encP2 x) :: caps) (.bool (p x))) (hm : xs.length ≤ maxLen) : CallsA Tryd.prog 67 [.sl 2 (encP2s xs), .fn f caps] (.int .i64 (idxOf p xs)) := by
  unfold maxLen at hm
  have hq := hcl
  refine callsA_of_tr Tryd.func67 rfl (Nat.le_of_ble_eq_true rfl) ?_
  simp only [Tryd.results67, envOf, Nat.reduceAdd]
  refine tr_seq fun K1 hK1 => ?_
  refine tr_region [0, 1] rfl rfl fun K hK => ?_
  refine evR_p ?_
  refine evR_e hK ?_; clear hK K
  refine hK1 _ ?_
  refine tr_seq fun K2 hK2 => ?_
  refine tr_seq fun K3 hK3 => ?_
  refine tr_region [0, 1, 7, 8] rfl rfl fun K hK => ?_
  iterate 3 refine evR_p ?_
  refine evR_e hK ?_; clear hK K
  refine hK3 _ ?_
  refine tr_block ?_
  -- loop 1: live [0, 1, 7, 8]
  refine tr_loopW (fun m σ => ∃ i, i + m = xs.length ∧ (∀ j, j < i → p (xs.getD j p20) = false) ∧ σ = ⟨[(0, .sl 2 (encP2s xs)), (1, .fn f caps), (7, .int .i64 xs.length), (8, .int .i64 (i : Nat))], [], 0⟩) (xs.length) ?_ ?_
  · exact ⟨_, Wk.refl _, 0, by omega, (by intro j hj; omega), rfl⟩
  · rintro m σ ⟨i, hi, hpi, rfl⟩ KL1 hKL1
    refine tr_seq fun K4 hK4 => ?_
    refine tr_region [0, 1, 7, 8, 9] rfl rfl fun K hK => ?_
    refine evR_p ?_
    refine evR_e hK ?_; clear hK K
    refine hK4 _ ?_
    refine tr_seq fun K5 hK5 => ?_
    refine tr_condB (fun ht1 => ?_) (fun ht1 => ?_)
    · skip
      have hil : i < xs.length := by omega
      replace hq := And.intro hq (hil)
      refine tr_skip ?_
      (try simp only [thenE, inBlkE])
      refine hK5 _ ?_
      refine tr_seq fun K6 hK6 => ?_
      refine tr_block ?_
      refine tr_seq fun K7 hK7 => ?_
      refine tr_region [0, 1, 5, 7, 8] rfl rfl fun K hK => ?_
      iterate 2 refine evR_p ?_
      refine evR_e hK ?_; clear hK K
      refine hK7 _ ?_
      refine tr_seq fun K8 hK8 => ?_
      refine tr_region [0, 1, 5, 7, 8, 16] rfl rfl fun K hK => ?_
      iterate 5 refine evR_p ?_
      refine evR_c (hc := (hp _ (getD_mem hil))) (k := ?_)
      refine evR_e hK ?_; clear hK K
      refine hK8 _ ?_
      refine tr_condB (fun ht2 => ?_) (fun ht2 => ?_)
      · skip
        refine tr_seq fun K9 hK9 => ?_
        refine tr_region [4] rfl rfl fun K hK => ?_
        iterate 2 refine evR_p ?_
        refine evR_e hK ?_; clear hK K
        refine hK9 _ ?_
        refine tr_ret ?_
        (try simp only [thenE, inBlkE])
        simp (maxSteps := 4000000) (disch := first | assumption | omega | (simp only [go_sem, *]; done) | (simp only [go_sem, *]; omega)) only [postA, postO, resV1, fzAll, go_sem, hq, Int.reduceToNat, Nat.reduceBEq, Nat.reduceEqDiff, Nat.reduceAdd, Nat.reduceMul, Nat.reduceLeDiff, Nat.reduceLT, Nat.reduceSub, ↓reduceIte, reduceCtorEq]
        all_goals (first | (rw [idxOf_at p p20 xs i hil hpi (by assumption)]; done) | (rw [idxOf_none p xs (all_false p20 hpi (by omega))]; done))
      · skip
        refine tr_skip ?_
        (try simp only [thenE, inBlkE])
        refine hK6 _ ?_
        refine tr_region [0, 1, 7, 8] rfl rfl fun K hK => ?_
        iterate 2 refine evR_p ?_
        refine evR_e hK ?_; clear hK K
        refine hKL1 _ ?_
        exact ⟨m - 1, _, by omega, Wk.refl _, i + 1, by omega, step_false hpi (by assumption), by rw [w64 (by omega)]; rfl⟩
    · skip
      have hil : i = xs.length := by omega
      refine tr_exit ?_
      simp only [thenE, inBlkE, Nat.reduceEqDiff, ↓reduceIte]
      refine hK2 _ ?_
      refine tr_seq fun K10 hK10 => ?_
      refine tr_region [4] rfl rfl fun K hK => ?_
      refine evR_p ?_
      refine evR_e hK ?_; clear hK K
      refine hK10 _ ?_
      refine tr_ret ?_
      (try simp only [thenE, inBlkE])
      simp (maxSteps := 4000000) (disch := first | assumption | omega | (simp only [go_sem, *]; done) | (simp only [go_sem, *]; omega)) only [postA, postO, resV1, fzAll, go_sem, hq, Int.reduceToNat, Nat.reduceBEq, Nat.reduceEqDiff, Nat.reduceAdd, Nat.reduceMul, Nat.reduceLeDiff, Nat.reduceLT, Nat.reduceSub, ↓reduceIte, reduceCtorEq]
      all_goals (first | (rw [idxOf_at p p20 xs i hil hpi (by assumption)]; done) | (rw [idxOf_none p xs (all_false p20 hpi (by omega))]; done))

theorem k68 (xs : List Int) (f : FuncId) (caps : List V) (p : Int → Bool) (hf : okF Tryd.prog f = true) (hcl : V.clL caps = true) (hp : ∀ x ∈ xs, CallsA Tryd.prog f (.int .i64 x :: caps) (.bool (p x))) (hm : xs.length ≤ maxLen) : CallsA Tryd.prog 68 [.sl 1 (encI xs), .fn f caps] (.int .i64 (idxOf p xs)) := by
  unfold maxLen at hm
  have hq := hcl
  refine callsA_of_tr Tryd.func68 rfl (Nat.le_of_ble_eq_true rfl) ?_
  simp only [Tryd.results68, envOf, Nat.reduceAdd]
  refine tr_seq fun K1 hK1 => ?_
  refine tr_region [0, 1] rfl rfl fun K hK => ?_
  refine evR_p ?_
  refine evR_e hK ?_; clear hK K
  refine hK1 _ ?_
  refine tr_seq fun K2 hK2 => ?_
  refine tr_seq fun K3 hK3 => ?_
  refine tr_region [0, 1, 7, 8] rfl rfl fun K hK => ?_
  iterate 3 refine evR_p ?_
  refine evR_e hK ?_; clear hK K
  refine hK3 _ ?_
  refine tr_block ?_
  -- loop 1: live [0, 1, 7, 8]
  refine tr_loopW (fun m σ => ∃ i, i + m = xs.length ∧ (∀ j, j < i → p (xs.getD j 0) = false) ∧ σ = ⟨[(0, .sl 1 (encI xs)), (1, .fn f caps), (7, .int .i64 xs.length), (8, .int .i64 (i : Nat))], [], 0⟩) (xs.length) ?_ ?_
  · exact ⟨_, Wk.refl _, 0, by omega, (by intro j hj; omega), rfl⟩
  · rintro m σ ⟨i, hi, hpi, rfl⟩ KL1 hKL1
    refine tr_seq fun K4 hK4 => ?_
    refine tr_region [0, 1, 7, 8, 9] rfl rfl fun K hK => ?_
    refine evR_p ?_
    refine evR_e hK ?_; clear hK K
    refine hK4 _ ?_
    refine tr_seq fun K5 hK5 => ?_
    refine tr_condB (fun ht1 => ?_) (fun ht1 => ?_)
    · skip
      have hil : i < xs.length := by omega
      replace hq := And.intro hq (hil)
      refine tr_skip ?_
      (try simp only [thenE, inBlkE])
      refine hK5 _ ?_
      refine tr_seq fun K6 hK6 => ?_
      refine tr_block ?_
      refine tr_seq fun K7 hK7 => ?_
      refine tr_region [0, 1, 5, 7, 8] rfl rfl fun K hK => ?_
      iterate 2 refine evR_p ?_
      refine evR_e hK ?_; clear hK K
      refine hK7 _ ?_
      refine tr_seq fun K8 hK8 => ?_
      refine tr_region [0, 1, 5, 7, 8, 16] rfl rfl fun K hK => ?_
      iterate 5 refine evR_p ?_
      refine evR_c (hc := (hp _ (getD_mem hil))) (k := ?_)
      refine evR_e hK ?_; clear hK K
      refine hK8 _ ?_
      refine tr_condB (fun ht2 => ?_) (fun ht2 => ?_)
      · skip
        refine tr_seq fun K9 hK9 => ?_
        refine tr_region [4] rfl rfl fun K hK => ?_
        iterate 2 refine evR_p ?_
        refine evR_e hK ?_; clear hK K
        refine hK9 _ ?_
        refine tr_ret ?_
        (try simp only [thenE, inBlkE])
        simp (maxSteps := 4000000) (disch := first | assumption | omega | (simp only [go_sem, *]; done) | (simp only [go_sem, *]; omega)) only [postA, postO, resV1, fzAll, go_sem, hq, Int.reduceToNat, Nat.reduceBEq, Nat.reduceEqDiff, Nat.reduceAdd, Nat.reduceMul, Nat.reduceLeDiff, Nat.reduceLT, Nat.reduceSub, ↓reduceIte, reduceCtorEq]
        all_goals (first | (rw [idxOf_at p 0 xs i hil hpi (by assumption)]; done) | (rw [idxOf_none p xs (all_false 0 hpi (by omega))]; done))
      · skip
        refine tr_skip ?_
        (try simp only [thenE, inBlkE])
        refine hK6 _ ?_
        refine tr_region [0, 1, 7, 8] rfl rfl fun K hK => ?_
        iterate 2 refine evR_p ?_
        refine evR_e hK ?_; clear hK K
        refine hKL1 _ ?_
        exact ⟨m - 1, _, by omega, Wk.refl _, i + 1, by omega, step_false hpi (by assumption), by rw [w64 (by omega)]; rfl⟩
    · skip
      have hil : i = xs.length := by omega
      refine tr_exit ?_
      simp only [thenE, inBlkE, Nat.reduceEqDiff, ↓reduceIte]
      refine hK2 _ ?_
      refine tr_seq fun K10 hK10 => ?_
      refine tr_region [4] rfl rfl fun K hK => ?_
      refine evR_p ?_
      refine evR_e hK ?_; clear hK K
      refine hK10 _ ?_
      refine tr_ret ?_
      (try simp only [thenE, inBlkE])
      simp (maxSteps := 4000000) (disch := first | assumption | omega | (simp only [go_sem, *]; done) | (simp only [go_sem, *]; omega)) only [postA, postO, resV1, fzAll, go_sem, hq, Int.reduceToNat, Nat.reduceBEq, Nat.reduceEqDiff, Nat.reduceAdd, Nat.reduceMul, Nat.reduceLeDiff, Nat.reduceLT, Nat.reduceSub, ↓reduceIte, reduceCtorEq]
      all_goals (first | (rw [idxOf_at p 0 xs i hil hpi (by assumption)]; done) | (rw [idxOf_none p xs (all_false 0 hpi (by omega))]; done))

theorem k38 (xs : List Of) (f : FuncId) (caps : List V) (p : Of → Bool) (hf : okF Tryd.prog f = true) (hcl : V.clL caps = true) (hp : ∀ x ∈ xs, CallsA Tryd.prog f (.agg (encOf x) :: caps) (.bool (p x))) (hm : xs.length ≤ maxLen) : CallsA Tryd.prog 38 [.sl 4 (encOfs xs), .fn f caps] (.bool (xs.any p)) := by
  have hq := hcl
  refine callsA_of_tr Tryd.func38 rfl (Nat.le_of_ble_eq_true rfl) ?_
  simp only [Tryd.results38, envOf, Nat.reduceAdd]
  refine tr_seq fun K1 hK1 => ?_
  refine tr_region [0, 1] rfl rfl fun K hK => ?_
  refine evR_p ?_
  refine evR_e hK ?_; clear hK K
  refine hK1 _ ?_
  refine tr_seq fun K2 hK2 => ?_
  refine tr_region [4] rfl rfl fun K hK => ?_
  iterate 2 refine evR_p ?_
  refine evR_c (hc := (k66 _ _ _ p hf hcl hp hm)) (k := ?_)
  iterate 2 refine evR_p ?_
  refine evR_e hK ?_; clear hK K
  refine hK2 _ ?_
  refine tr_ret ?_
  (try simp only [thenE, inBlkE])
  simp (maxSteps := 4000000) (disch := first | assumption | omega | (simp only [go_sem, *]; done) | (simp only [go_sem, *]; omega)) only [postA, postO, resV1, fzAll, go_sem, hq, Int.reduceToNat, Nat.reduceBEq, Nat.reduceEqDiff, Nat.reduceAdd, Nat.reduceMul, Nat.reduceLeDiff, Nat.reduceLT, Nat.reduceSub, ↓reduceIte, reduceCtorEq]
  all_goals (simp [idxOf_ge])

theorem k39 (xs : List P2) (f : FuncId) (caps : List V) (p : P2 → Bool) (hf : okF Tryd.prog f = true) (hcl : V.clL caps = true) (hp : ∀ x ∈ xs, CallsA Tryd.prog f (.agg (encP2 x) :: caps) (.bool (p x))) (hm : xs.length ≤ maxLen) : CallsA Tryd.prog 39 [.sl 2 (encP2s xs), .fn f caps] (.bool (xs.any p)) := by
  have hq := hcl
  refine callsA_of_tr Tryd.func39 rfl (Nat.le_of_ble_eq_true rfl) ?_
  simp only [Tryd.results39, envOf, Nat.reduceAdd]
  refine tr_seq fun K1 hK1 => ?_
  refine tr_region [0, 1] rfl rfl fun K hK => ?_
  refine evR_p ?_
  refine evR_e hK ?_; clear hK K
  refine hK1 _ ?_
  refine tr_seq fun K2 hK2 => ?_
  refine tr_region [4] rfl rfl fun K hK => ?_
  iterate 2 refine evR_p ?_
  refine evR_c (hc := (k67 _ _ _ p hf hcl hp hm)) (k := ?_)
  iterate 2 refine evR_p ?_
  refine evR_e hK ?_; clear hK K
  refine hK2 _ ?_
  refine tr_ret ?_
  (try simp only [thenE, inBlkE])
  simp (maxSteps := 4000000) (disch := first | assumption | omega | (simp only [go_sem, *]; done) | (simp only [go_sem, *]; omega)) only [postA, postO, resV1, fzAll, go_sem, hq, Int.reduceToNat, Nat.reduceBEq, Nat.reduceEqDiff, Nat.reduceAdd, Nat.reduceMul, Nat.reduceLeDiff, Nat.reduceLT, Nat.reduceSub, ↓reduceIte, reduceCtorEq]
  all_goals (simp [idxOf_ge])

theorem k40 (xs : List Int) (f : FuncId) (caps : List V) (p : Int → Bool) (hf : okF Tryd.prog f = true) (hcl : V.clL caps = true) (hp : ∀ x ∈ xs, CallsA Tryd.prog f (.int .i64 x :: caps) (.bool (p x))) (hm : xs.length ≤ maxLen) : CallsA Tryd.prog 40 [.sl 1 (encI xs), .fn f caps] (.bool (xs.any p)) := by
  have hq := hcl
  refine callsA_of_tr Tryd.func40 rfl (Nat.le_of_ble_eq_true rfl) ?_
  simp only [Tryd.results40, envOf, Nat.reduceAdd]
  refine tr_seq fun K1 hK1 => ?_
  refine tr_region [0, 1] rfl rfl fun K hK => ?_
  refine evR_p ?_
  refine evR_e hK ?_; clear hK K
  refine hK1 _ ?_
  refine tr_seq fun K2 hK2 => ?_
  refine tr_region [4] rfl rfl fun K hK => ?_
  iterate 2 refine evR_p ?_
  refine evR_c (hc := (k68 _ _ _ p hf hcl hp hm)) (k := ?_)
  iterate 2 refine evR_p ?_
  refine evR_e hK ?_; clear hK K
  refine hK2 _ ?_
  refine tr_ret ?_
  (try simp only [thenE, inBlkE])
  simp (maxSteps := 4000000) (disch := first | assumption | omega | (simp only [go_sem, *]; done) | (simp only [go_sem, *]; omega)) only [postA, postO, resV1, fzAll, go_sem, hq, Int.reduceToNat, Nat.reduceBEq, Nat.reduceEqDiff, Nat.reduceAdd, Nat.reduceMul, Nat.reduceLeDiff, Nat.reduceLT, Nat.reduceSub, ↓reduceIte, reduceCtorEq]
  all_goals (simp [idxOf_ge])

theorem k47 (xs : List Of) (f : FuncId) (caps : List V) (c : Of → Of → Int) (hf : okF Tryd.prog f = true) (hcl : V.clL caps = true) (hp : ∀ x ∈ xs, ∀ y ∈ xs, CallsA Tryd.prog f (.agg (encOf x) :: .agg (encOf y) :: caps) (.int .i64 (c x y))) (hm : xs.length ≤ maxLen) : CallsA Tryd.prog 47 [.sl 4 (encOfs xs), .fn f caps] (.bool (ascB of0 (fun a b => decide (c a b < 0)) xs)) := by
  unfold maxLen at hm
  have hq := hcl
  refine callsA_of_tr Tryd.func47 rfl (Nat.le_of_ble_eq_true rfl) ?_
  simp only [Tryd.results47, envOf, Nat.reduceAdd]
  refine tr_seq fun K1 hK1 => ?_
  refine tr_region [0, 1] rfl rfl fun K hK => ?_
  refine evR_p ?_
  refine evR_e hK ?_; clear hK K
  refine hK1 _ ?_
  refine tr_seq fun K2 hK2 => ?_
  refine tr_seq fun K3 hK3 => ?_
  refine tr_region [0, 1, 5] rfl rfl fun K hK => ?_
  refine evR_p ?_
  refine evR_e hK ?_; clear hK K
  refine hK3 _ ?_
  refine tr_block ?_
  -- loop 1: live [0, 1, 5]
  refine tr_loopW (fun m σ => ∃ i : Nat, 1 ≤ i ∧ (i = 1 ∨ i ≤ xs.length) ∧ i + m = xs.length + 1 ∧ (∀ j, 0 < j → j < i → c (xs.getD (j - 1) of0) (xs.getD j of0) < 0) ∧ σ = ⟨[(0, .sl 4 (encOfs xs)), (1, .fn f caps), (5, .int .i64 (i : Nat))], [], 0⟩) (xs.length) ?_ ?_
  · exact ⟨_, Wk.refl _, 1, by omega, by omega, by omega, (by intro j hj hk; omega), rfl⟩
  · rintro m σ ⟨i, hi1, hi2, hi, hpi, rfl⟩ KL1 hKL1
    refine tr_seq fun K4 hK4 => ?_
    refine tr_seq fun K5 hK5 => ?_
    refine tr_region [0, 1, 5, 9] rfl rfl fun K hK => ?_
    iterate 4 refine evR_p ?_
    refine evR_e hK ?_; clear hK K
    refine hK5 _ ?_
    refine tr_condB (fun ht1 => ?_) (fun ht1 => ?_)
    · skip
      have hil : i < xs.length := by omega
      have hw1 : IntKind.i64.wrap ((i : Int) - 1) = ((i - 1 : Nat) : Int) := by rw [w64 (by omega)]; omega
      replace hq := And.intro hq (And.intro hil (hw1))
      refine tr_skip ?_
      (try simp only [thenE, inBlkE])
      refine hK4 _ ?_
      refine tr_seq fun K6 hK6 => ?_
      refine tr_block ?_
      refine tr_seq fun K7 hK7 => ?_
      refine tr_draw [] [0, 1, 5, 23] mixed rfl (by kernel_rfl) rfl fun K hK => ?_
      iterate 10 refine evD_p ?_
      refine evD_c (hc := (hp _ (getD_mem (by omega)) _ (getD_mem hil))) (k := ?_)
      refine evD_p ?_
      refine evD_e hK ?_; clear hK K
      refine hK7 _ ?_
      refine tr_condB (fun ht2 => ?_) (fun ht2 => ?_)
      · skip
        refine tr_seq fun K8 hK8 => ?_
        refine tr_region [4] rfl rfl fun K hK => ?_
        refine evR_p ?_
        refine evR_e hK ?_; clear hK K
        refine hK8 _ ?_
        refine tr_ret ?_
        (try simp only [thenE, inBlkE])
        simp (maxSteps := 4000000) (disch := first | assumption | omega | (simp only [go_sem, *]; done) | (simp only [go_sem, *]; omega)) only [postA, postO, resV1, fzAll, go_sem, hq, Int.reduceToNat, Nat.reduceBEq, Nat.reduceEqDiff, Nat.reduceAdd, Nat.reduceMul, Nat.reduceLeDiff, Nat.reduceLT, Nat.reduceSub, ↓reduceIte, reduceCtorEq]
        all_goals (first | (rw [asc_all hpi (by omega)]; done) | (rw [asc_bad (i := i) (by omega) hil (by omega)]; done))
      · skip
        refine tr_skip ?_
        (try simp only [thenE, inBlkE])
        refine hK6 _ ?_
        refine tr_region [0, 1, 5] rfl rfl fun K hK => ?_
        iterate 3 refine evR_p ?_
        refine evR_e hK ?_; clear hK K
        refine hKL1 _ ?_
        exact ⟨m - 1, _, by omega, Wk.refl _, i + 1, by omega, by omega, by omega, asc_step hpi (by omega), by rw [w64 (by omega)]; rfl⟩
    · skip
      have hil : xs.length ≤ i := by omega
      refine tr_exit ?_
      simp only [thenE, inBlkE, Nat.reduceEqDiff, ↓reduceIte]
      refine hK2 _ ?_
      refine tr_seq fun K9 hK9 => ?_
      refine tr_region [4] rfl rfl fun K hK => ?_
      refine evR_p ?_
      refine evR_e hK ?_; clear hK K
      refine hK9 _ ?_
      refine tr_ret ?_
      (try simp only [thenE, inBlkE])
      simp (maxSteps := 4000000) (disch := first | assumption | omega | (simp only [go_sem, *]; done) | (simp only [go_sem, *]; omega)) only [postA, postO, resV1, fzAll, go_sem, hq, Int.reduceToNat, Nat.reduceBEq, Nat.reduceEqDiff, Nat.reduceAdd, Nat.reduceMul, Nat.reduceLeDiff, Nat.reduceLT, Nat.reduceSub, ↓reduceIte, reduceCtorEq]
      all_goals (first | (rw [asc_all hpi (by omega)]; done) | (rw [asc_bad (i := i) (by omega) hil (by omega)]; done))

theorem k48 (xs : List P2) (f : FuncId) (caps : List V) (c : P2 → P2 → Int) (hf : okF Tryd.prog f = true) (hcl : V.clL caps = true) (hp : ∀ x ∈ xs, ∀ y ∈ xs, CallsA Tryd.prog f (.agg (encP2 x) :: .agg (encP2 y) :: caps) (.int .i64 (c x y))) (hm : xs.length ≤ maxLen) : CallsA Tryd.prog 48 [.sl 2 (encP2s xs), .fn f caps] (.bool (ascB p20 (fun a b => decide (c a b < 0)) xs)) := by
  unfold maxLen at hm
  have hq := hcl
  refine callsA_of_tr Tryd.func48 rfl (Nat.le_of_ble_eq_true rfl) ?_
  simp only [Tryd.results48, envOf, Nat.reduceAdd]
  refine tr_seq fun K1 hK1 => ?_
  refine tr_region [0, 1] rfl rfl fun K hK => ?_
  refine evR_p ?_
  refine evR_e hK ?_; clear hK K
  refine hK1 _ ?_
  refine tr_seq fun K2 hK2 => ?_
  refine tr_seq fun K3 hK3 => ?_
  refine tr_region [0, 1, 5] rfl rfl fun K hK => ?_
  refine evR_p ?_
  refine evR_e hK ?_; clear hK K
  refine hK3 _ ?_
  refine tr_block ?_
  -- loop 1: live [0, 1, 5]
  refine tr_loopW (fun m σ => ∃ i : Nat, 1 ≤ i ∧ (i = 1 ∨ i ≤ xs.length) ∧ i + m = xs.length + 1 ∧ (∀ j, 0 < j → j < i → c (xs.getD (j - 1) p20) (xs.getD j p20) < 0) ∧ σ = ⟨[(0, .sl 2 (encP2s xs)), (1, .fn f caps), (5, .int .i64 (i : Nat))], [], 0⟩) (xs.length) ?_ ?_
  · exact ⟨_, Wk.refl _, 1, by omega, by omega, by omega, (by intro j hj hk; omega), rfl⟩
  · rintro m σ ⟨i, hi1, hi2, hi, hpi, rfl⟩ KL1 hKL1
    refine tr_seq fun K4 hK4 => ?_
    refine tr_seq fun K5 hK5 => ?_
    refine tr_region [0, 1, 5, 9] rfl rfl fun K hK => ?_
    iterate 4 refine evR_p ?_
    refine evR_e hK ?_; clear hK K
    refine hK5 _ ?_
    refine tr_condB (fun ht1 => ?_) (fun ht1 => ?_)
    · skip
      have hil : i < xs.length := by omega
      have hw1 : IntKind.i64.wrap ((i : Int) - 1) = ((i - 1 : Nat) : Int) := by rw [w64 (by omega)]; omega
      replace hq := And.intro hq (And.intro hil (hw1))
      refine tr_skip ?_
      (try simp only [thenE, inBlkE])
      refine hK4 _ ?_
      refine tr_seq fun K6 hK6 => ?_
      refine tr_block ?_
      refine tr_seq fun K7 hK7 => ?_
      refine tr_draw [] [0, 1, 5, 23] mixed rfl (by kernel_rfl) rfl fun K hK => ?_
      iterate 10 refine evD_p ?_
      refine evD_c (hc := (hp _ (getD_mem (by omega)) _ (getD_mem hil))) (k := ?_)
      refine evD_p ?_
      refine evD_e hK ?_; clear hK K
      refine hK7 _ ?_
      refine tr_condB (fun ht2 => ?_) (fun ht2 => ?_)
      · skip
        refine tr_seq fun K8 hK8 => ?_
        refine tr_region [4] rfl rfl fun K hK => ?_
        refine evR_p ?_
        refine evR_e hK ?_; clear hK K
        refine hK8 _ ?_
        refine tr_ret ?_
        (try simp only [thenE, inBlkE])
        simp (maxSteps := 4000000) (disch := first | assumption | omega | (simp only [go_sem, *]; done) | (simp only [go_sem, *]; omega)) only [postA, postO, resV1, fzAll, go_sem, hq, Int.reduceToNat, Nat.reduceBEq, Nat.reduceEqDiff, Nat.reduceAdd, Nat.reduceMul, Nat.reduceLeDiff, Nat.reduceLT, Nat.reduceSub, ↓reduceIte, reduceCtorEq]
        all_goals (first | (rw [asc_all hpi (by omega)]; done) | (rw [asc_bad (i := i) (by omega) hil (by omega)]; done))
      · skip
        refine tr_skip ?_
        (try simp only [thenE, inBlkE])
        refine hK6 _ ?_
        refine tr_region [0, 1, 5] rfl rfl fun K hK => ?_
        iterate 3 refine evR_p ?_
        refine evR_e hK ?_; clear hK K
        refine hKL1 _ ?_
        exact ⟨m - 1, _, by omega, Wk.refl _, i + 1, by omega, by omega, by omega, asc_step hpi (by omega), by rw [w64 (by omega)]; rfl⟩
    · skip
      have hil : xs.length ≤ i := by omega
      refine tr_exit ?_
      simp only [thenE, inBlkE, Nat.reduceEqDiff, ↓reduceIte]
      refine hK2 _ ?_
      refine tr_seq fun K9 hK9 => ?_
      refine tr_region [4] rfl rfl fun K hK => ?_
      refine evR_p ?_
      refine evR_e hK ?_; clear hK K
      refine hK9 _ ?_
      refine tr_ret ?_
      (try simp only [thenE, inBlkE])
      simp (maxSteps := 4000000) (disch := first | assumption | omega | (simp only [go_sem, *]; done) | (simp only [go_sem, *]; omega)) only [postA, postO, resV1, fzAll, go_sem, hq, Int.reduceToNat, Nat.reduceBEq, Nat.reduceEqDiff, Nat.reduceAdd, Nat.reduceMul, Nat.reduceLeDiff, Nat.reduceLT, Nat.reduceSub, ↓reduceIte, reduceCtorEq]
      all_goals (first | (rw [asc_all hpi (by omega)]; done) | (rw [asc_bad (i := i) (by omega) hil (by omega)]; done))

theorem k49 (xs : List Int) (f : FuncId) (caps : List V) (c : Int → Int → Int) (hf : okF Tryd.prog f = true) (hcl : V.clL caps = true) (hp : ∀ x ∈ xs, ∀ y ∈ xs, CallsA Tryd.prog f (.int .i64 x :: .int .i64 y :: caps) (.int .i64 (c x y))) (hm : xs.length ≤ maxLen) : CallsA Tryd.prog 49 [.sl 1 (encI xs), .fn f caps] (.bool (ascB 0 (fun a b => decide (c a b < 0)) xs)) := by
  unfold maxLen at hm
  have hq := hcl
  refine callsA_of_tr Tryd.func49 rfl (Nat.le_of_ble_eq_true rfl) ?_
  simp only [Tryd.results49, envOf, Nat.reduceAdd]
  refine tr_seq fun K1 hK1 => ?_
  refine tr_region [0, 1] rfl rfl fun K hK => ?_
  refine evR_p ?_
  refine evR_e hK ?_; clear hK K
  refine hK1 _ ?_
  refine tr_seq fun K2 hK2 => ?_
  refine tr_seq fun K3 hK3 => ?_
  refine tr_region [0, 1, 5] rfl rfl fun K hK => ?_
  refine evR_p ?_
  refine evR_e hK ?_; clear hK K
  refine hK3 _ ?_
  refine tr_block ?_
  -- loop 1: live [0, 1, 5]
  refine tr_loopW (fun m σ => ∃ i : Nat, 1 ≤ i ∧ (i = 1 ∨ i ≤ xs.length) ∧ i + m = xs.length + 1 ∧ (∀ j, 0 < j → j < i → c (xs.getD (j - 1) 0) (xs.getD j 0) < 0) ∧ σ = ⟨[(0, .sl 1 (encI xs)), (1, .fn f caps), (5, .int .i64 (i : Nat))], [], 0⟩) (xs.length) ?_ ?_
  · exact ⟨_, Wk.refl _, 1, by omega, by omega, by omega, (by intro j hj hk; omega), rfl⟩
  · rintro m σ ⟨i, hi1, hi2, hi, hpi, rfl⟩ KL1 hKL1
    refine tr_seq fun K4 hK4 => ?_
    refine tr_seq fun K5 hK5 => ?_
    refine tr_region [0, 1, 5, 9] rfl rfl fun K hK => ?_
    iterate 4 refine evR_p ?_
    refine evR_e hK ?_; clear hK K
    refine hK5 _ ?_
    refine tr_condB (fun ht1 => ?_) (fun ht1 => ?_)
    · skip
      have hil : i < xs.length := by omega
      have hw1 : IntKind.i64.wrap ((i : Int) - 1) = ((i - 1 : Nat) : Int) := by rw [w64 (by omega)]; omega
      replace hq := And.intro hq (And.intro hil (hw1))
      refine tr_skip ?_
      (try simp only [thenE, inBlkE])
      refine hK4 _ ?_
      refine tr_seq fun K6 hK6 => ?_
      refine tr_block ?_
      refine tr_seq fun K7 hK7 => ?_
      refine tr_draw [] [0, 1, 5, 23] mixed rfl (by kernel_rfl) rfl fun K hK => ?_
      iterate 10 refine evD_p ?_
      refine evD_c (hc := (hp _ (getD_mem (by omega)) _ (getD_mem hil))) (k := ?_)
      refine evD_p ?_
      refine evD_e hK ?_; clear hK K
      refine hK7 _ ?_
      refine tr_condB (fun ht2 => ?_) (fun ht2 => ?_)
      · skip
        refine tr_seq fun K8 hK8 => ?_
        refine tr_region [4] rfl rfl fun K hK => ?_
        refine evR_p ?_
        refine evR_e hK ?_; clear hK K
        refine hK8 _ ?_
        refine tr_ret ?_
        (try simp only [thenE, inBlkE])
        simp (maxSteps := 4000000) (disch := first | assumption | omega | (simp only [go_sem, *]; done) | (simp only [go_sem, *]; omega)) only [postA, postO, resV1, fzAll, go_sem, hq, Int.reduceToNat, Nat.reduceBEq, Nat.reduceEqDiff, Nat.reduceAdd, Nat.reduceMul, Nat.reduceLeDiff, Nat.reduceLT, Nat.reduceSub, ↓reduceIte, reduceCtorEq]
        all_goals (first | (rw [asc_all hpi (by omega)]; done) | (rw [asc_bad (i := i) (by omega) hil (by omega)]; done))
      · skip
        refine tr_skip ?_
        (try simp only [thenE, inBlkE])
        refine hK6 _ ?_
        refine tr_region [0, 1, 5] rfl rfl fun K hK => ?_
        iterate 3 refine evR_p ?_
        refine evR_e hK ?_; clear hK K
        refine hKL1 _ ?_
        exact ⟨m - 1, _, by omega, Wk.refl _, i + 1, by omega, by omega, by omega, asc_step hpi (by omega), by rw [w64 (by omega)]; rfl⟩
    · skip
      have hil : xs.length ≤ i := by omega
      refine tr_exit ?_
      simp only [thenE, inBlkE, Nat.reduceEqDiff, ↓reduceIte]
      refine hK2 _ ?_
      refine tr_seq fun K9 hK9 => ?_
      refine tr_region [4] rfl rfl fun K hK => ?_
      refine evR_p ?_
      refine evR_e hK ?_; clear hK K
      refine hK9 _ ?_
      refine tr_ret ?_
      (try simp only [thenE, inBlkE])
      simp (maxSteps := 4000000) (disch := first | assumption | omega | (simp only [go_sem, *]; done) | (simp only [go_sem, *]; omega)) only [postA, postO, resV1, fzAll, go_sem, hq, Int.reduceToNat, Nat.reduceBEq, Nat.reduceEqDiff, Nat.reduceAdd, Nat.reduceMul, Nat.reduceLeDiff, Nat.reduceLT, Nat.reduceSub, ↓reduceIte, reduceCtorEq]
      all_goals (first | (rw [asc_all hpi (by omega)]; done) | (rw [asc_bad (i := i) (by omega) hil (by omega)]; done))

end Go.Proofs.YtaaongcfeldcoaaDoor


namespace Go.Proofs.YtaaongcfeldcoaaDoor
open Go.RowKit
set_option linter.unusedVariables false
set_option linter.unusedSimpArgs false
set_option maxRecDepth 100000
attribute [local go_sem] Nat.zero_add Nat.add_zero Nat.mul_one eq_self ne_eq not_true_eq_false not_false_eq_true decide_true decide_false decide_not Bool.false_eq_true List.filter_cons List.filter_nil true_and and_true beq_false beq_true Bool.not_true Bool.not_false Bool.and_true Bool.true_and Option.getD_some Option.getD_none imp_self implies_true Int.toNat_natCast List.cons_append List.nil_append List.map_cons List.map_nil List.length_cons List.length_nil List.getD_cons_zero List.getD_cons_succ List.drop_zero List.drop_succ_cons List.take_succ_cons List.take_zero
attribute [local go_sem] lowN lowQ lowM isAl appOwn unw appF isE isO stpO notIn St.bare evO evDO isEff stp St.get St.slot St.put List.lookup un unL ofVal gof nth pickV pkB_false pkB_true binV unV loadV idxV fldV partV buildV fillV lenV sliV appV appR rowsV winV V.parts V.okp V.sc Mem.look_cons Mem.look_nil V.cl V.clL AObj.clo fzAll exps St.fz Mem.fz V.fz V.fzL AObj.fz Option.isSome_some Option.isSome_none Bool.or_true Bool.true_or Bool.or_false Bool.false_or false_and and_false false_or or_false arT_112 arT_22 arT_23 arT_27 arT_28 arT_29 arT_33 arT_52 arT_57 arT_65 arT_76 arT_77 arT_84 arT_88 arT_9 arT_95 boolT_133 boolT_29 boolT_3 boolT_36 boolT_4 boolT_70 boolT_92 flatT_133 flatT_29 flatT_3 flatT_36 flatT_4 flatT_70 flatT_92 intT_121 intT_142 intT_144 intT_145 intT_3 intT_5 lay_110 lay_145 lay_22 lay_23 lay_25 lay_27 lay_28 lay_29 lay_3 lay_31 lay_33 lay_35 lay_4 lay_42 lay_51 lay_56 lay_57 lay_59 lay_70 lay_73 lay_77 lay_79 lay_81 lay_83 lay_84 lay_85 lay_88 lay_92 lay_94 lay_95 okF_10 okF_100 okF_101 okF_102 okF_103 okF_104 okF_105 okF_11 okF_12 okF_122 okF_123 okF_124 okF_125 okF_126 okF_127 okF_13 okF_14 okF_15 okF_16 okF_17 okF_18 okF_19 okF_20 okF_21 okF_22 okF_23 okF_24 okF_25 okF_26 okF_27 okF_28 okF_29 okF_3 okF_30 okF_31 okF_32 okF_33 okF_34 okF_35 okF_36 okF_37 okF_38 okF_39 okF_4 okF_40 okF_41 okF_42 okF_43 okF_44 okF_45 okF_46 okF_47 okF_48 okF_49 okF_5 okF_50 okF_51 okF_52 okF_53 okF_54 okF_55 okF_56 okF_57 okF_58 okF_59 okF_6 okF_60 okF_61 okF_62 okF_63 okF_64 okF_65 okF_66 okF_67 okF_68 okF_69 okF_7 okF_70 okF_71 okF_72 okF_73 okF_74 okF_75 okF_76 okF_77 okF_78 okF_79 okF_8 okF_80 okF_81 okF_82 okF_83 okF_84 okF_85 okF_86 okF_87 okF_88 okF_89 okF_9 okF_90 okF_91 okF_92 okF_93 okF_94 okF_95 okF_96 okF_97 okF_98 okF_99 plT_31 plT_35 plT_51 plT_56 plT_59 plT_70 plT_73 plT_90 plT_92 plT_95 slT_112 slT_22 slT_23 slT_27 slT_28 slT_29 slT_33 slT_52 slT_57 slT_65 slT_76 slT_77 slT_88 slT_95 stT_25_0 stT_25_1 stT_25_2 stT_25_3 stT_25_4 stT_31_0 stT_31_1 stT_31_2 stT_31_3 stT_35_0 stT_35_1 stT_35_2 stT_35_3 stT_51_0 stT_51_1 stT_56_0 stT_56_1 stT_56_2 stT_56_3 stT_59_0 stT_59_1 stT_59_2 stT_73_0 stT_73_3 stT_73_4 stT_73_5 stT_79_0 stT_79_1 stT_79_2 stT_83_0 stT_90_0 stT_90_1 stT_90_2 stT_90_3 strT_76 strT_77 strT_84 strT_9 zeroT_112 zeroT_145 zeroT_3 zeroT_31 zeroT_33 zeroT_35 zeroT_42 zeroT_51 zeroT_56 zeroT_57 zeroT_59 zeroT_70 zeroT_73 zeroT_79 zeroT_83 zeroT_90 zeroT_92 zeroT_95
attribute [local go_sem] List.getElem?_cons_zero List.getElem?_cons_succ List.zip_cons_cons List.zip_nil_left List.zip_nil_right Bool.false_and Bool.and_false List.length_append List.length_set List.length_replicate List.all_cons List.all_nil encI_length encI_getD encR_length encR_getD encRw encPg spl shp AObj.shp rowM isSt isRpS isRd csh AObj.csh forall_const imp_self
attribute [local go_sem] encHr encOf encSp encP2 encSps_length encOfs_length encP2s_length encSps_getD encOfs_getD encP2s_getD
attribute [local simp] encI_length encR_length cellsI_length encSps_length encOfs_length encP2s_length
section
attribute [local go_sem] cellsI_cl cellsI_length cellsI_getD cellsI_dropD
theorem k30 (h : Hr) (s : Int) (hV : VH h) : CallsA Tryd.prog 30 [.agg (encHr h), .int .i64 s] (.agg (cellsI (tal h s h.offers.length))) := by
  have ho0 := hV.ol
  have hq : True := trivial
  refine callsA_of_tr Tryd.func30 rfl (Nat.le_of_ble_eq_true rfl) ?_
  simp only [Tryd.results30, envOf, Nat.reduceAdd]
  refine tr_seq fun K1 hK1 => ?_
  refine tr_region [1, 2, 4] rfl rfl fun K hK => ?_
  iterate 2 refine evR_p ?_
  refine evR_e hK ?_; clear hK K
  refine hK1 _ ?_
  refine tr_seq fun K2 hK2 => ?_
  refine tr_seq fun K3 hK3 => ?_
  refine tr_region [1, 4, 8, 9, 10] rfl rfl fun K hK => ?_
  iterate 4 refine evR_p ?_
  refine evR_e hK ?_; clear hK K
  refine hK3 _ ?_
  refine tr_block ?_
  -- loop 1: live [1, 4, 8, 9, 10]
  refine tr_loopW (fun m σ => ∃ i : Nat, i + m = h.offers.length ∧ σ = ⟨[(1, .int .i64 s), (4, .ptr 1 0), (8, .sl 4 (encOfs h.offers)), (9, .int .i64 h.offers.length), (10, .int .i64 (i : Nat))], [(1, .cells (cellsI (tal h s i))), (0, .cells (encHr h))], 2⟩) (h.offers.length) ?_ ?_
  · exact ⟨_, Wk.refl _, 0, by omega, rfl⟩
  · rintro m σ ⟨i, hi, rfl⟩ KL1 hKL1
    refine tr_seq fun K4 hK4 => ?_
    refine tr_region [1, 4, 8, 9, 10, 11] rfl rfl fun K hK => ?_
    refine evR_p ?_
    refine evR_e hK ?_; clear hK K
    refine hK4 _ ?_
    refine tr_seq fun K5 hK5 => ?_
    refine tr_condB (fun ht1 => ?_) (fun ht1 => ?_)
    · skip
      have hil : i < h.offers.length := by omega
      obtain ⟨⟨o1, o2⟩, ⟨o3, o4⟩, ⟨o5, o6⟩, o7⟩ := hV.of i hil
      obtain ⟨p, hp⟩ := Int.eq_ofNat_of_zero_le o1
      obtain ⟨r, hr⟩ := Int.eq_ofNat_of_zero_le o3
      have hrl := hV.rl
      have htl := tal_length h s i
      replace hq := And.intro hq (And.intro hil (And.intro hp (And.intro hr (And.intro htl (cellsI_spl)))))
      refine tr_skip ?_
      (try simp only [thenE, inBlkE])
      refine hK5 _ ?_
      refine tr_seq fun K6 hK6 => ?_
      refine tr_block ?_
      refine tr_seq fun K7 hK7 => ?_
      refine tr_region [1, 4, 5, 6, 8, 9, 10] rfl rfl fun K hK => ?_
      iterate 6 refine evR_p ?_
      refine evR_e hK ?_; clear hK K
      refine hK7 _ ?_
      refine tr_seq fun K8 hK8 => ?_
      refine tr_region [1, 4, 6, 8, 9, 10, 19] rfl rfl fun K hK => ?_
      iterate 5 refine evR_p ?_
      refine evR_e hK ?_; clear hK K
      refine hK8 _ ?_
      refine tr_condB (fun ht2 => ?_) (fun ht2 => ?_)
      · skip
        refine tr_seq fun K9 hK9 => ?_
        refine tr_region [1, 4, 6, 8, 9, 10] rfl rfl fun K hK => ?_
        iterate 9 refine evR_p ?_
        refine evR_e hK ?_; clear hK K
        refine hK9 _ ?_
        refine tr_seq fun K10 hK10 => ?_
        refine tr_draw [] [1, 4, 6, 8, 9, 10] mixed rfl (by kernel_rfl) rfl fun K hK => ?_
        iterate 11 refine evD_p ?_
        refine evD_e hK ?_; clear hK K
        refine hK10 _ ?_
        refine tr_draw [] [1, 4, 8, 9, 10] mixed rfl (by kernel_rfl) rfl fun K hK => ?_
        iterate 12 refine evD_p ?_
        refine evD_e hK ?_; clear hK K
        refine hK6 _ ?_
        refine tr_region [1, 4, 8, 9, 10] rfl rfl fun K hK => ?_
        iterate 2 refine evR_p ?_
        refine evR_e hK ?_; clear hK K
        refine hKL1 _ ?_
        exact ⟨m - 1, _, by omega, Wk.cut 2 (by simp [St.cutOK, AObj.upto, V.upto, V.uptoL, cellsI_uptoL, List.all_cons, List.all_nil, List.filter_cons, List.filter_nil, Nat.blt_eq, Nat.reduceLT, Nat.lt_irrefl, decide_true, decide_false, Bool.and_self, Bool.and_true, Bool.true_and, if_true, if_false, ↓reduceIte, Bool.false_eq_true, encHr, encP2]), i + 1, by omega, by (rw [w64 (x := (i : Int) + 1) (by omega)]; first | (rw [tal_t (show tkn s i = true from decide_eq_true ht2)]; simp only [talS, hp, hr, Int.toNat_natCast]; rfl) | (rw [tal_f (show tkn s i = false from decide_eq_false ht2)]; rfl))⟩
      · skip
        refine tr_skip ?_
        (try simp only [thenE, inBlkE])
        refine hK6 _ ?_
        refine tr_region [1, 4, 8, 9, 10] rfl rfl fun K hK => ?_
        iterate 2 refine evR_p ?_
        refine evR_e hK ?_; clear hK K
        refine hKL1 _ ?_
        exact ⟨m - 1, _, by omega, Wk.cut 2 (by simp [St.cutOK, AObj.upto, V.upto, V.uptoL, cellsI_uptoL, List.all_cons, List.all_nil, List.filter_cons, List.filter_nil, Nat.blt_eq, Nat.reduceLT, Nat.lt_irrefl, decide_true, decide_false, Bool.and_self, Bool.and_true, Bool.true_and, if_true, if_false, ↓reduceIte, Bool.false_eq_true, encHr, encP2]), i + 1, by omega, by (rw [w64 (x := (i : Int) + 1) (by omega)]; first | (rw [tal_t (show tkn s i = true from decide_eq_true ht2)]; simp only [talS, hp, hr, Int.toNat_natCast]; rfl) | (rw [tal_f (show tkn s i = false from decide_eq_false ht2)]; rfl))⟩
    · skip
      have hil : i = h.offers.length := by omega
      subst hil
      have htl := tal_length h s h.offers.length
      have hct := cellsI_take (tal h s h.offers.length) 24 htl
      have hcd : List.drop 24 (cellsI (tal h s h.offers.length)) = [] := List.drop_of_length_le (by rw [cellsI_length, htl]; exact Nat.le_refl _)
      replace hq := And.intro hq (And.intro htl (And.intro hct hcd))
      refine tr_exit ?_
      simp only [thenE, inBlkE, Nat.reduceEqDiff, ↓reduceIte]
      refine hK2 _ ?_
      refine tr_seq fun K11 hK11 => ?_
      refine tr_region [4] rfl rfl fun K hK => ?_
      iterate 2 refine evR_p ?_
      refine evR_e hK ?_; clear hK K
      refine hK11 _ ?_
      refine tr_ret ?_
      (try simp only [thenE, inBlkE])
      simp (maxSteps := 4000000) (disch := first | assumption | omega | (simp only [go_sem, *]; done) | (simp only [go_sem, *]; omega)) only [postA, postO, resV1, fzAll, go_sem, hq, Int.reduceToNat, Nat.reduceBEq, Nat.reduceEqDiff, Nat.reduceAdd, Nat.reduceMul, Nat.reduceLeDiff, Nat.reduceLT, Nat.reduceSub, ↓reduceIte, reduceCtorEq]
      all_goals ((rw [List.append_nil, hct]; exact ⟨cellsI_cl _, rfl⟩))
end

theorem k123 (l : List Int) (h0 : 0 < l.length) (hm : l.length ≤ maxLen) : CallsA Tryd.prog 123 [.sl 1 (encI l)] (.int .i64 (mxL l (l.length - 1))) := by
  unfold maxLen at hm
  have hq : True := trivial
  refine callsA_of_tr Tryd.func123 rfl (Nat.le_of_ble_eq_true rfl) ?_
  simp only [Tryd.results123, envOf, Nat.reduceAdd]
  refine tr_seq fun K1 hK1 => ?_
  refine tr_region [0] rfl rfl fun K hK => ?_
  refine evR_p ?_
  refine evR_e hK ?_; clear hK K
  refine hK1 _ ?_
  refine tr_seq fun K2 hK2 => ?_
  refine tr_seq fun K3 hK3 => ?_
  refine tr_region [0, 7] rfl rfl fun K hK => ?_
  iterate 3 refine evR_p ?_
  refine evR_e hK ?_; clear hK K
  refine hK3 _ ?_
  refine tr_condB (fun ht1 => ?_) (fun ht1 => ?_)
  · skip
    (first | (exfalso; omega) | skip)
    all_goals
      exfalso; first | omega | (simp_all; done)
  · skip
    (first | (exfalso; omega) | skip)
    all_goals
      refine tr_skip ?_
      (try simp only [thenE, inBlkE])
      refine hK2 _ ?_
      refine tr_seq fun K4 hK4 => ?_
      refine tr_region [0, 3] rfl rfl fun K hK => ?_
      iterate 4 refine evR_p ?_
      refine evR_e hK ?_; clear hK K
      refine hK4 _ ?_
      refine tr_seq fun K5 hK5 => ?_
      refine tr_seq fun K6 hK6 => ?_
      refine tr_region [0, 3, 4] rfl rfl fun K hK => ?_
      refine evR_p ?_
      refine evR_e hK ?_; clear hK K
      refine hK6 _ ?_
      refine tr_block ?_
      -- loop 1: live [0, 3, 4]
      refine tr_loopW (fun m σ => ∃ i : Nat, 1 ≤ i ∧ i + m = l.length ∧ σ = ⟨[(0, .sl 1 (encI l)), (3, .int .i64 (mxL l (i - 1))), (4, .int .i64 (i : Nat))], [], 0⟩) (l.length - 1) ?_ ?_
      · exact ⟨_, Wk.refl _, 1, by omega, by omega, rfl⟩
      · rintro m σ ⟨i, hi1, hi, rfl⟩ KL1 hKL1
        refine tr_seq fun K7 hK7 => ?_
        refine tr_seq fun K8 hK8 => ?_
        refine tr_region [0, 3, 4, 15] rfl rfl fun K hK => ?_
        iterate 4 refine evR_p ?_
        refine evR_e hK ?_; clear hK K
        refine hK8 _ ?_
        refine tr_condB (fun ht2 => ?_) (fun ht2 => ?_)
        · skip
          (first | (exfalso; omega) | skip)
          all_goals
            have hil : i < l.length := by omega
            replace hq := And.intro hq (hil)
            refine tr_skip ?_
            (try simp only [thenE, inBlkE])
            refine hK7 _ ?_
            refine tr_seq fun K9 hK9 => ?_
            refine tr_block ?_
            refine tr_region [0, 3, 4] rfl rfl fun K hK => ?_
            iterate 7 refine evR_p ?_
            refine evR_e hK ?_; clear hK K
            refine hK9 _ ?_
            refine tr_region [0, 3, 4] rfl rfl fun K hK => ?_
            iterate 3 refine evR_p ?_
            refine evR_e hK ?_; clear hK K
            refine hKL1 _ ?_
            exact ⟨m - 1, _, by omega, Wk.refl _, i + 1, by omega, by omega, by rw [w64 (x := (i : Int) + 1) (by omega), Nat.add_sub_cancel, mxL_step l hi1]; rfl⟩
        · skip
          (first | (exfalso; omega) | skip)
          all_goals
            have hil : i = l.length := by omega
            subst hil
            refine tr_exit ?_
            simp only [thenE, inBlkE, Nat.reduceEqDiff, ↓reduceIte]
            refine hK5 _ ?_
            refine tr_seq fun K10 hK10 => ?_
            refine tr_region [2] rfl rfl fun K hK => ?_
            iterate 2 refine evR_p ?_
            refine evR_e hK ?_; clear hK K
            refine hK10 _ ?_
            refine tr_ret ?_
            (try simp only [thenE, inBlkE])
            simp (maxSteps := 4000000) (disch := first | assumption | omega | (simp only [go_sem, *]; done) | (simp only [go_sem, *]; omega)) only [postA, postO, resV1, fzAll, go_sem, hq, Int.reduceToNat, Nat.reduceBEq, Nat.reduceEqDiff, Nat.reduceAdd, Nat.reduceMul, Nat.reduceLeDiff, Nat.reduceLT, Nat.reduceSub, ↓reduceIte, reduceCtorEq]
            all_goals (rfl)

end Go.Proofs.YtaaongcfeldcoaaDoor


namespace Go.Proofs.YtaaongcfeldcoaaDoor
open Go.RowKit
set_option linter.unusedVariables false
set_option linter.unusedSimpArgs false
set_option maxRecDepth 100000
attribute [local go_sem] Nat.zero_add Nat.add_zero Nat.mul_one eq_self ne_eq not_true_eq_false not_false_eq_true decide_true decide_false decide_not Bool.false_eq_true List.filter_cons List.filter_nil true_and and_true beq_false beq_true Bool.not_true Bool.not_false Bool.and_true Bool.true_and Option.getD_some Option.getD_none imp_self implies_true Int.toNat_natCast List.cons_append List.nil_append List.map_cons List.map_nil List.length_cons List.length_nil List.getD_cons_zero List.getD_cons_succ List.drop_zero List.drop_succ_cons List.take_succ_cons List.take_zero
attribute [local go_sem] lowN lowQ lowM isAl appOwn unw appF isE isO stpO notIn St.bare evO evDO isEff stp St.get St.slot St.put List.lookup un unL ofVal gof nth pickV pkB_false pkB_true binV unV loadV idxV fldV partV buildV fillV lenV sliV appV appR rowsV winV V.parts V.okp V.sc Mem.look_cons Mem.look_nil V.cl V.clL AObj.clo fzAll exps St.fz Mem.fz V.fz V.fzL AObj.fz Option.isSome_some Option.isSome_none Bool.or_true Bool.true_or Bool.or_false Bool.false_or false_and and_false false_or or_false arT_112 arT_22 arT_23 arT_27 arT_28 arT_29 arT_33 arT_52 arT_57 arT_65 arT_76 arT_77 arT_84 arT_88 arT_9 arT_95 boolT_133 boolT_29 boolT_3 boolT_36 boolT_4 boolT_70 boolT_92 flatT_133 flatT_29 flatT_3 flatT_36 flatT_4 flatT_70 flatT_92 intT_121 intT_142 intT_144 intT_145 intT_3 intT_5 lay_110 lay_145 lay_22 lay_23 lay_25 lay_27 lay_28 lay_29 lay_3 lay_31 lay_33 lay_35 lay_4 lay_42 lay_51 lay_56 lay_57 lay_59 lay_70 lay_73 lay_77 lay_79 lay_81 lay_83 lay_84 lay_85 lay_88 lay_92 lay_94 lay_95 okF_10 okF_100 okF_101 okF_102 okF_103 okF_104 okF_105 okF_11 okF_12 okF_122 okF_123 okF_124 okF_125 okF_126 okF_127 okF_13 okF_14 okF_15 okF_16 okF_17 okF_18 okF_19 okF_20 okF_21 okF_22 okF_23 okF_24 okF_25 okF_26 okF_27 okF_28 okF_29 okF_3 okF_30 okF_31 okF_32 okF_33 okF_34 okF_35 okF_36 okF_37 okF_38 okF_39 okF_4 okF_40 okF_41 okF_42 okF_43 okF_44 okF_45 okF_46 okF_47 okF_48 okF_49 okF_5 okF_50 okF_51 okF_52 okF_53 okF_54 okF_55 okF_56 okF_57 okF_58 okF_59 okF_6 okF_60 okF_61 okF_62 okF_63 okF_64 okF_65 okF_66 okF_67 okF_68 okF_69 okF_7 okF_70 okF_71 okF_72 okF_73 okF_74 okF_75 okF_76 okF_77 okF_78 okF_79 okF_8 okF_80 okF_81 okF_82 okF_83 okF_84 okF_85 okF_86 okF_87 okF_88 okF_89 okF_9 okF_90 okF_91 okF_92 okF_93 okF_94 okF_95 okF_96 okF_97 okF_98 okF_99 plT_31 plT_35 plT_51 plT_56 plT_59 plT_70 plT_73 plT_90 plT_92 plT_95 slT_112 slT_22 slT_23 slT_27 slT_28 slT_29 slT_33 slT_52 slT_57 slT_65 slT_76 slT_77 slT_88 slT_95 stT_25_0 stT_25_1 stT_25_2 stT_25_3 stT_25_4 stT_31_0 stT_31_1 stT_31_2 stT_31_3 stT_35_0 stT_35_1 stT_35_2 stT_35_3 stT_51_0 stT_51_1 stT_56_0 stT_56_1 stT_56_2 stT_56_3 stT_59_0 stT_59_1 stT_59_2 stT_73_0 stT_73_3 stT_73_4 stT_73_5 stT_79_0 stT_79_1 stT_79_2 stT_83_0 stT_90_0 stT_90_1 stT_90_2 stT_90_3 strT_76 strT_77 strT_84 strT_9 zeroT_112 zeroT_145 zeroT_3 zeroT_31 zeroT_33 zeroT_35 zeroT_42 zeroT_51 zeroT_56 zeroT_57 zeroT_59 zeroT_70 zeroT_73 zeroT_79 zeroT_83 zeroT_90 zeroT_92 zeroT_95
attribute [local go_sem] List.getElem?_cons_zero List.getElem?_cons_succ List.zip_cons_cons List.zip_nil_left List.zip_nil_right Bool.false_and Bool.and_false List.length_append List.length_set List.length_replicate List.all_cons List.all_nil encI_length encI_getD encR_length encR_getD encRw encPg spl shp AObj.shp rowM isSt isRpS isRd csh AObj.csh forall_const imp_self
attribute [local go_sem] encHr encOf encSp encP2 encSps_length encOfs_length encP2s_length encSps_getD encOfs_getD encP2s_getD
attribute [local simp] encI_length encR_length cellsI_length encSps_length encOfs_length encP2s_length
section
attribute [local go_sem] cellsI_length cellsI_cl List.drop_zero
theorem k122 (h : Hr) (hV : VH h) (t : List Int) (ht : t.length = 24) : CallsA Tryd.prog 122 [.agg (encHr h), .agg (cellsI t)] (.bool (c1B t)) := by
  have htk : (t.take 12).length = 12 := by simp [ht]
  have hmx := k123 (t.take 12) (by omega) (by unfold maxLen; omega)
  rw [htk] at hmx
  have hq := And.intro ht (And.intro htk (cellsI_tk))
  refine callsA_of_tr Tryd.func122 rfl (Nat.le_of_ble_eq_true rfl) ?_
  simp only [Tryd.results122, envOf, Nat.reduceAdd]
  refine tr_seq fun K1 hK1 => ?_
  refine tr_region [3] rfl rfl fun K hK => ?_
  iterate 3 refine evR_p ?_
  refine evR_e hK ?_; clear hK K
  refine hK1 _ ?_
  refine tr_seq fun K2 hK2 => ?_
  refine tr_fz [.ptr 1 0] (by simp (maxSteps := 4000000) (disch := first | assumption | omega | (simp only [go_sem, *]; done) | (simp only [go_sem, *]; omega)) only [go_sem, hq, Int.reduceToNat, Nat.reduceBEq, Nat.reduceEqDiff, Nat.reduceAdd, Nat.reduceMul, Nat.reduceLeDiff, Nat.reduceLT, Nat.reduceSub, ↓reduceIte, reduceCtorEq]; (try rfl)) ?_
  refine tr_region [4] rfl rfl fun K hK => ?_
  iterate 2 refine evR_p ?_
  refine evR_c (hc := hmx) (k := ?_)
  iterate 2 refine evR_p ?_
  refine evR_e hK ?_; clear hK K
  refine hK2 _ ?_
  refine tr_ret ?_
  (try simp only [thenE, inBlkE])
  simp (maxSteps := 4000000) (disch := first | assumption | omega | (simp only [go_sem, *]; done) | (simp only [go_sem, *]; omega)) only [postA, postO, resV1, fzAll, go_sem, hq, Int.reduceToNat, Nat.reduceBEq, Nat.reduceEqDiff, Nat.reduceAdd, Nat.reduceMul, Nat.reduceLeDiff, Nat.reduceLT, Nat.reduceSub, ↓reduceIte, reduceCtorEq]
  all_goals (rfl)
end

section
attribute [local go_sem] cellsI_length cellsI_getD cellsI_dropD
theorem k124 (h : Hr) (hV : VH h) (t : List Int) (ht : t.length = 24) : CallsA Tryd.prog 124 [.agg (encHr h), .agg (cellsI t)] (.bool (c2B h t)) := by
  have hrl := hV.rl
  have hq : True := trivial
  refine callsA_of_tr Tryd.func124 rfl (Nat.le_of_ble_eq_true rfl) ?_
  simp only [Tryd.results124, envOf, Nat.reduceAdd]
  refine tr_seq fun K1 hK1 => ?_
  refine tr_region [2, 3] rfl rfl fun K hK => ?_
  iterate 3 refine evR_p ?_
  refine evR_e hK ?_; clear hK K
  refine hK1 _ ?_
  refine tr_seq fun K2 hK2 => ?_
  refine tr_seq fun K3 hK3 => ?_
  refine tr_region [3, 8, 9, 10] rfl rfl fun K hK => ?_
  iterate 4 refine evR_p ?_
  refine evR_e hK ?_; clear hK K
  refine hK3 _ ?_
  refine tr_block ?_
  -- loop 1: live [3, 8, 9, 10]
  refine tr_loopW (fun m σ => ∃ i : Nat, i + m = h.rooms.length ∧ (∀ j, j < i → (fun k => !decide ((h.rooms.getD k sp0).to - (h.rooms.getD k sp0).fr < t.getD (12 + k) 0)) j = true) ∧ σ = ⟨[(3, .ptr 1 0), (8, .sl 2 (encSps h.rooms)), (9, .int .i64 h.rooms.length), (10, .int .i64 (i : Nat))], [(1, .cells (cellsI t)), (0, .cells (encHr h))], 2⟩) (h.rooms.length) ?_ ?_
  · exact ⟨_, Wk.refl _, 0, by omega, (by intro j hj; omega), rfl⟩
  · rintro m σ ⟨i, hi, hpi, rfl⟩ KL1 hKL1
    refine tr_seq fun K4 hK4 => ?_
    refine tr_region [3, 8, 9, 10, 11] rfl rfl fun K hK => ?_
    refine evR_p ?_
    refine evR_e hK ?_; clear hK K
    refine hK4 _ ?_
    refine tr_seq fun K5 hK5 => ?_
    refine tr_condB (fun ht1 => ?_) (fun ht1 => ?_)
    · skip
      have hil : i < h.rooms.length := by omega
      have hrm := hV.rm i hil
      have hw : IntKind.i64.wrap ((h.rooms.getD i sp0).to - (h.rooms.getD i sp0).fr) = (h.rooms.getD i sp0).to - (h.rooms.getD i sp0).fr := w64 (by omega)
      replace hq := And.intro hq (And.intro hil (And.intro hw (ht)))
      refine tr_skip ?_
      (try simp only [thenE, inBlkE])
      refine hK5 _ ?_
      refine tr_seq fun K6 hK6 => ?_
      refine tr_block ?_
      refine tr_seq fun K7 hK7 => ?_
      refine tr_region [3, 5, 6, 8, 9, 10] rfl rfl fun K hK => ?_
      iterate 6 refine evR_p ?_
      refine evR_e hK ?_; clear hK K
      refine hK7 _ ?_
      refine tr_seq fun K8 hK8 => ?_
      refine tr_draw [] [3, 8, 9, 10, 24] mixed rfl (by kernel_rfl) rfl fun K hK => ?_
      iterate 10 refine evD_p ?_
      refine evD_e hK ?_; clear hK K
      refine hK8 _ ?_
      refine tr_condB (fun ht2 => ?_) (fun ht2 => ?_)
      · skip
        refine tr_seq fun K9 hK9 => ?_
        refine tr_region [4] rfl rfl fun K hK => ?_
        refine evR_p ?_
        refine evR_e hK ?_; clear hK K
        refine hK9 _ ?_
        refine tr_ret ?_
        (try simp only [thenE, inBlkE])
        simp (maxSteps := 4000000) (disch := first | assumption | omega | (simp only [go_sem, *]; done) | (simp only [go_sem, *]; omega)) only [postA, postO, resV1, fzAll, go_sem, hq, Int.reduceToNat, Nat.reduceBEq, Nat.reduceEqDiff, Nat.reduceAdd, Nat.reduceMul, Nat.reduceLeDiff, Nat.reduceLT, Nat.reduceSub, ↓reduceIte, reduceCtorEq]
        all_goals (first | (rw [c2B, allTo_no hil (by simpa using ht2)]; done) | (rw [c2B, allTo_iff.2 hpi]; done))
      · skip
        refine tr_skip ?_
        (try simp only [thenE, inBlkE])
        refine hK6 _ ?_
        refine tr_region [3, 8, 9, 10] rfl rfl fun K hK => ?_
        iterate 2 refine evR_p ?_
        refine evR_e hK ?_; clear hK K
        refine hKL1 _ ?_
        exact ⟨m - 1, _, by omega, Wk.cut 2 (by simp [St.cutOK, AObj.upto, V.upto, V.uptoL, cellsI_uptoL, List.all_cons, List.all_nil, List.filter_cons, List.filter_nil, Nat.blt_eq, Nat.reduceLT, Nat.lt_irrefl, decide_true, decide_false, Bool.and_self, Bool.and_true, Bool.true_and, if_true, if_false, ↓reduceIte, Bool.false_eq_true, encHr, encP2]), i + 1, by omega, all_step hpi (by simpa using ht2), by rw [w64 (x := (i : Int) + 1) (by omega)]; rfl⟩
    · skip
      have hil : i = h.rooms.length := by omega
      subst hil
      refine tr_exit ?_
      simp only [thenE, inBlkE, Nat.reduceEqDiff, ↓reduceIte]
      refine hK2 _ ?_
      refine tr_seq fun K10 hK10 => ?_
      refine tr_region [4] rfl rfl fun K hK => ?_
      refine evR_p ?_
      refine evR_e hK ?_; clear hK K
      refine hK10 _ ?_
      refine tr_ret ?_
      (try simp only [thenE, inBlkE])
      simp (maxSteps := 4000000) (disch := first | assumption | omega | (simp only [go_sem, *]; done) | (simp only [go_sem, *]; omega)) only [postA, postO, resV1, fzAll, go_sem, hq, Int.reduceToNat, Nat.reduceBEq, Nat.reduceEqDiff, Nat.reduceAdd, Nat.reduceMul, Nat.reduceLeDiff, Nat.reduceLT, Nat.reduceSub, ↓reduceIte, reduceCtorEq]
      all_goals (first | (rw [c2B, allTo_no hil (by simpa using ht2)]; done) | (rw [c2B, allTo_iff.2 hpi]; done))
end

section
attribute [local go_sem] cellsI_length cellsI_getD cellsI_dropD
theorem k125 (h : Hr) (hV : VH h) (t : List Int) (ht : t.length = 24) : CallsA Tryd.prog 125 [.agg (encHr h), .agg (cellsI t)] (.bool (c3B h t)) := by
  have hal := hV.al
  have hq : True := trivial
  refine callsA_of_tr Tryd.func125 rfl (Nat.le_of_ble_eq_true rfl) ?_
  simp only [Tryd.results125, envOf, Nat.reduceAdd]
  refine tr_seq fun K1 hK1 => ?_
  refine tr_region [2, 3] rfl rfl fun K hK => ?_
  iterate 3 refine evR_p ?_
  refine evR_e hK ?_; clear hK K
  refine hK1 _ ?_
  refine tr_seq fun K2 hK2 => ?_
  refine tr_seq fun K3 hK3 => ?_
  refine tr_region [3, 10, 11, 12] rfl rfl fun K hK => ?_
  iterate 4 refine evR_p ?_
  refine evR_e hK ?_; clear hK K
  refine hK3 _ ?_
  refine tr_block ?_
  -- loop 1: live [3, 10, 11, 12]
  refine tr_loopW (fun m σ => ∃ i : Nat, i + m = h.apart.length ∧ (∀ j, j < i → (fun i => c3P t (h.apart.getD i p20)) j = true) ∧ σ = ⟨[(3, .ptr 1 0), (10, .sl 2 (encP2s h.apart)), (11, .int .i64 h.apart.length), (12, .int .i64 (i : Nat))], [(1, .cells (cellsI t)), (0, .cells (encHr h))], 2⟩) (h.apart.length) ?_ ?_
  · exact ⟨_, Wk.refl _, 0, by omega, (by intro j hj; omega), rfl⟩
  · rintro m σ ⟨i, hi, hpi, rfl⟩ KL1 hKL1
    refine tr_seq fun K4 hK4 => ?_
    refine tr_region [3, 10, 11, 12, 13] rfl rfl fun K hK => ?_
    refine evR_p ?_
    refine evR_e hK ?_; clear hK K
    refine hK4 _ ?_
    refine tr_seq fun K5 hK5 => ?_
    refine tr_condB (fun ht1 => ?_) (fun ht1 => ?_)
    · skip
      have hil : i < h.apart.length := by omega
      have hap := hV.ap _ (getD_mem (d := p20) hil)
      obtain ⟨a, hA⟩ : ∃ a, h.apart.getD i p20 = a := ⟨_, rfl⟩
      rw [hA] at hap
      replace hq := And.intro hq (And.intro hil (And.intro hA (ht)))
      refine tr_skip ?_
      (try simp only [thenE, inBlkE])
      refine hK5 _ ?_
      refine tr_seq fun K6 hK6 => ?_
      refine tr_block ?_
      refine tr_seq fun K7 hK7 => ?_
      refine tr_region [3, 6, 10, 11, 12] rfl rfl fun K hK => ?_
      iterate 4 refine evR_p ?_
      refine evR_e hK ?_; clear hK K
      refine hK7 _ ?_
      refine tr_seq fun K8 hK8 => ?_
      refine tr_region [3, 6, 10, 11, 12, 17, 18] rfl rfl fun K hK => ?_
      iterate 3 refine evR_p ?_
      refine evR_e hK ?_; clear hK K
      refine hK8 _ ?_
      refine tr_block ?_
      -- loop 2: live [3, 6, 10, 11, 12, 17, 18]
      refine tr_loopW (fun m σ => ∃ k : Nat, k + m = 6 ∧ (∀ j, j < k → (fun k => !(bitB (t.getD (18 + k) 0) a.a && bitB (t.getD (18 + k) 0) a.b)) j = true) ∧ σ = ⟨[(3, .ptr 1 0), (6, .ptr 2 0), (10, .sl 2 (encP2s h.apart)), (11, .int .i64 h.apart.length), (12, .int .i64 (i : Nat)), (17, .agg (List.take 6 (List.drop 18 (cellsI t)))), (18, .int .i64 (k : Nat))], [(2, .cells (encP2 a)), (1, .cells (cellsI t)), (0, .cells (encHr h))], 3⟩) (6) ?_ ?_
      · exact ⟨_, Wk.refl _, 0, by omega, (by intro j hj; omega), rfl⟩
      · rintro m2 σ ⟨k, hk, hpk, rfl⟩ KL2 hKL2
        refine tr_seq fun K9 hK9 => ?_
        refine tr_region [3, 6, 10, 11, 12, 17, 18, 19] rfl rfl fun K hK => ?_
        refine evR_p ?_
        refine evR_e hK ?_; clear hK K
        refine hK9 _ ?_
        refine tr_seq fun K10 hK10 => ?_
        refine tr_condB (fun ht2 => ?_) (fun ht2 => ?_)
        · skip
          have hkl : k < 6 := by omega
          have hgk := cellsI_win6 (t := t) (by omega) hkl
          replace hq := And.intro hq (And.intro hkl (hgk))
          refine tr_skip ?_
          (try simp only [thenE, inBlkE])
          refine hK10 _ ?_
          refine tr_seq fun K11 hK11 => ?_
          refine tr_block ?_
          refine tr_seq fun K12 hK12 => ?_
          refine tr_region [3, 6, 8, 10, 11, 12, 17, 18] rfl rfl fun K hK => ?_
          iterate 2 refine evR_p ?_
          refine evR_e hK ?_; clear hK K
          refine hK12 _ ?_
          refine tr_seq fun K13 hK13 => ?_
          refine tr_region [3, 6, 10, 11, 12, 17, 18, 34] rfl rfl fun K hK => ?_
          iterate 7 refine evR_p ?_
          iterate 6 refine evR_g ?_
          refine evR_p ?_
          refine evR_e hK ?_; clear hK K
          refine hK13 _ ?_
          refine tr_condB (fun ht3 => ?_) (fun ht3 => ?_)
          · skip
            refine tr_seq fun K14 hK14 => ?_
            refine tr_region [4] rfl rfl fun K hK => ?_
            refine evR_p ?_
            refine evR_e hK ?_; clear hK K
            refine hK14 _ ?_
            refine tr_ret ?_
            (try simp only [thenE, inBlkE])
            simp (maxSteps := 4000000) (disch := first | assumption | omega | (simp only [go_sem, *]; done) | (simp only [go_sem, *]; omega)) only [postA, postO, resV1, fzAll, go_sem, hq, Int.reduceToNat, Nat.reduceBEq, Nat.reduceEqDiff, Nat.reduceAdd, Nat.reduceMul, Nat.reduceLeDiff, Nat.reduceLT, Nat.reduceSub, ↓reduceIte, reduceCtorEq]
            all_goals (first | (rw [c3B, allTo_no (i := i) hil (by show c3P t (h.apart.getD i p20) = false; rw [hA]; exact allTo_no hkl (by unfold bitB; simpa using ht3))]; done) | (rw [c3B, allTo_iff.2 hpi]; done))
          · skip
            refine tr_skip ?_
            (try simp only [thenE, inBlkE])
            refine hK11 _ ?_
            refine tr_region [3, 6, 10, 11, 12, 17, 18] rfl rfl fun K hK => ?_
            iterate 2 refine evR_p ?_
            refine evR_e hK ?_; clear hK K
            refine hKL2 _ ?_
            exact ⟨m2 - 1, _, by omega, Wk.refl _, k + 1, by omega, all_step hpk (by unfold bitB; simpa using ht3), by rw [w64 (x := (k : Int) + 1) (by omega)]; rfl⟩
        · skip
          have hkl : k = 6 := by omega
          subst hkl
          refine tr_exit ?_
          simp only [thenE, inBlkE, Nat.reduceEqDiff, ↓reduceIte]
          refine hK6 _ ?_
          refine tr_region [3, 10, 11, 12] rfl rfl fun K hK => ?_
          iterate 2 refine evR_p ?_
          refine evR_e hK ?_; clear hK K
          refine hKL1 _ ?_
          exact ⟨m - 1, _, by omega, Wk.cut 2 (by simp [St.cutOK, AObj.upto, V.upto, V.uptoL, cellsI_uptoL, List.all_cons, List.all_nil, List.filter_cons, List.filter_nil, Nat.blt_eq, Nat.reduceLT, Nat.lt_irrefl, decide_true, decide_false, Bool.and_self, Bool.and_true, Bool.true_and, if_true, if_false, ↓reduceIte, Bool.false_eq_true, encHr, encP2]), i + 1, by omega, all_step hpi (by show c3P t (h.apart.getD i p20) = true; rw [hA]; exact allTo_iff.2 hpk), by rw [w64 (x := (i : Int) + 1) (by omega)]; rfl⟩
    · skip
      have hil : i = h.apart.length := by omega
      subst hil
      refine tr_exit ?_
      simp only [thenE, inBlkE, Nat.reduceEqDiff, ↓reduceIte]
      refine hK2 _ ?_
      refine tr_seq fun K15 hK15 => ?_
      refine tr_region [4] rfl rfl fun K hK => ?_
      refine evR_p ?_
      refine evR_e hK ?_; clear hK K
      refine hK15 _ ?_
      refine tr_ret ?_
      (try simp only [thenE, inBlkE])
      simp (maxSteps := 4000000) (disch := first | assumption | omega | (simp only [go_sem, *]; done) | (simp only [go_sem, *]; omega)) only [postA, postO, resV1, fzAll, go_sem, hq, Int.reduceToNat, Nat.reduceBEq, Nat.reduceEqDiff, Nat.reduceAdd, Nat.reduceMul, Nat.reduceLeDiff, Nat.reduceLT, Nat.reduceSub, ↓reduceIte, reduceCtorEq]
      all_goals (first | (rw [c3B, allTo_no (i := i) hil (by show c3P t (h.apart.getD i p20) = false; rw [hA]; exact allTo_no hkl (by unfold bitB; simpa using ht3))]; done) | (rw [c3B, allTo_iff.2 hpi]; done))
end

section
attribute [local go_sem] cellsI_length cellsI_getD cellsI_dropD
theorem k127 (n : Int) (hn : 0 ≤ n ∧ n ≤ 11) (t : List Int) (ht : t.length = 24) : CallsA Tryd.prog 127 [.int .i64 n, .ep (cellsI t)] (.bool (decide (t.getD n.toNat 0 = 0))) := by
  obtain ⟨k, hk⟩ := Int.eq_ofNat_of_zero_le hn.1
  subst hk
  have hq := ht
  refine callsA_of_tr Tryd.func127 rfl (Nat.le_of_ble_eq_true rfl) ?_
  simp only [Tryd.results127, envOf, Nat.reduceAdd]
  refine tr_seq fun K1 hK1 => ?_
  refine tr_region [0, 1] rfl rfl fun K hK => ?_
  refine evR_p ?_
  refine evR_e hK ?_; clear hK K
  refine hK1 _ ?_
  refine tr_seq fun K2 hK2 => ?_
  refine tr_region [3] rfl rfl fun K hK => ?_
  iterate 6 refine evR_p ?_
  refine evR_e hK ?_; clear hK K
  refine hK2 _ ?_
  refine tr_ret ?_
  (try simp only [thenE, inBlkE])
  simp (maxSteps := 4000000) (disch := first | assumption | omega | (simp only [go_sem, *]; done) | (simp only [go_sem, *]; omega)) only [postA, postO, resV1, fzAll, go_sem, hq, Int.reduceToNat, Nat.reduceBEq, Nat.reduceEqDiff, Nat.reduceAdd, Nat.reduceMul, Nat.reduceLeDiff, Nat.reduceLT, Nat.reduceSub, ↓reduceIte, reduceCtorEq]
  all_goals (rfl)
end

section
attribute [local go_sem] cellsI_length cellsI_cl
theorem k126 (h : Hr) (hV : VH h) (t : List Int) (ht : t.length = 24) : CallsA Tryd.prog 126 [.agg (encHr h), .agg (cellsI t)] (.bool (c4B h t)) := by
  have hml := hV.ml
  have hq := ht
  refine callsA_of_tr Tryd.func126 rfl (Nat.le_of_ble_eq_true rfl) ?_
  simp only [Tryd.results126, envOf, Nat.reduceAdd]
  refine tr_seq fun K1 hK1 => ?_
  refine tr_region [2, 3] rfl rfl fun K hK => ?_
  iterate 3 refine evR_p ?_
  refine evR_e hK ?_; clear hK K
  refine hK1 _ ?_
  refine tr_seq fun K2 hK2 => ?_
  refine tr_fz [.ptr 1 0] (by simp (maxSteps := 4000000) (disch := first | assumption | omega | (simp only [go_sem, *]; done) | (simp only [go_sem, *]; omega)) only [go_sem, hq, Int.reduceToNat, Nat.reduceBEq, Nat.reduceEqDiff, Nat.reduceAdd, Nat.reduceMul, Nat.reduceLeDiff, Nat.reduceLT, Nat.reduceSub, ↓reduceIte, reduceCtorEq]; (try rfl)) ?_
  refine tr_region [4] rfl rfl fun K hK => ?_
  iterate 3 refine evR_p ?_
  refine evR_c (hc := (k40 h.must 127 [.ep (cellsI t)] (fun n => decide (t.getD n.toNat 0 = 0)) okF_127 rfl (fun n hn => k127 n (hV.mu n hn) t ht) (by unfold maxLen; omega))) (k := ?_)
  iterate 2 refine evR_p ?_
  refine evR_e hK ?_; clear hK K
  refine hK2 _ ?_
  refine tr_ret ?_
  (try simp only [thenE, inBlkE])
  simp (maxSteps := 4000000) (disch := first | assumption | omega | (simp only [go_sem, *]; done) | (simp only [go_sem, *]; omega)) only [postA, postO, resV1, fzAll, go_sem, hq, Int.reduceToNat, Nat.reduceBEq, Nat.reduceEqDiff, Nat.reduceAdd, Nat.reduceMul, Nat.reduceLeDiff, Nat.reduceLT, Nat.reduceSub, ↓reduceIte, reduceCtorEq]
  all_goals (rfl)
end

end Go.Proofs.YtaaongcfeldcoaaDoor


namespace Go.Proofs.YtaaongcfeldcoaaDoor
open Go.RowKit
set_option linter.unusedVariables false
set_option linter.unusedSimpArgs false
theorem kcond (h : Hr) (hV : VH h) (t : List Int) (ht : t.length = 24) (i : Nat) (hi : i < 4) : CallsA Tryd.prog (condF i) [.agg (encHr h), .agg (cellsI t)] (.bool (condB h t i)) := by
  match i, hi with
  | 0, _ => exact k122 h hV t ht
  | 1, _ => exact k124 h hV t ht
  | 2, _ => exact k125 h hV t ht
  | 3, _ => exact k126 h hV t ht
theorem okCond (i : Nat) (hi : i < 4) : okF Tryd.prog (condF i) = true := by
  match i, hi with
  | 0, _ => exact okF_122
  | 1, _ => exact okF_124
  | 2, _ => exact okF_125
  | 3, _ => exact okF_126
theorem keeps_no {h : Hr} {s : Int} (hx : validH h = false ∨ choiceH h s = false) : keepsH h s = false := by
  unfold keepsH
  rcases hx with e | e <;> rw [e] <;> simp
theorem keeps_yes {h : Hr} {s : Int} (hx : validH h = true ∧ choiceH h s = true) : validH h = true ∧ choiceH h s = true := hx
theorem keeps_t {h : Hr} {s : Int} (hv : validH h = true) (hc : choiceH h s = true) {b : Bool} (hb : allTo (condB h (tal h s h.offers.length)) 4 = b) : keepsH h s = b := by
  obtain ⟨n, rfl, hn⟩ := choiceH_nat hc
  unfold keepsH
  rw [hv, hc, Bool.true_and, Bool.true_and, ← keepsT_fits (validH_all hv)]
  exact hb
end Go.Proofs.YtaaongcfeldcoaaDoor

namespace Go.Proofs.YtaaongcfeldcoaaDoor
open Go.RowKit
set_option linter.unusedVariables false
set_option linter.unusedSimpArgs false
theorem encI_rep (n : Nat) (x : Int) : List.replicate n [V.int .i64 x] = encI (List.replicate n x) := by simp [encI]
theorem encI_set (l : List Int) (k : Nat) (x : Int) : (encI l).set k [V.int .i64 x] = encI (l.set k x) := by simp [encI, List.map_set]
/-- The least sum, exactly. -/
def lstG (c : List Int) (d s : Nat) : Nat → Int
  | 0 => 0
  | k + 1 => lstG c d s k + (if k < d then (if s.testBit k then c.getD k 0 else 0) else if c.getD k 0 < 0 then c.getD k 0 else 0)
theorem lstG_range {c : List Int} (hb : coefB c = true) (d s : Nat) : ∀ k : Nat, -((k : Int) * 1000000000) ≤ lstG c d s k ∧ lstG c d s k ≤ (k : Int) * 1000000000
  | 0 => by simp [lstG]
  | k + 1 => by
    have ih := lstG_range hb d s k
    have hc := coef_getD hb k
    simp only [lstG]
    split
    · split <;> omega
    · split <;> omega
theorem lstG_low (c : List Int) {d s : Nat} : ∀ k, k ≤ d → lstG c d s k = sumG c s k
  | 0, _ => rfl
  | k + 1, h => by
    have ih := lstG_low c (d := d) (s := s) k (by omega)
    simp only [lstG, sumG, ih, if_pos (show k < d by omega)]
theorem sumG_take (c : List Int) (s d : Nat) : ∀ k, k ≤ d → sumG (c.take d) s k = sumG c s k
  | 0, _ => rfl
  | k + 1, h => by
    have : (c.take d).getD k 0 = c.getD k 0 := by simp [List.getD, List.getElem?_take, show k < d by omega]
    simp only [sumG, sumG_take c s d k (by omega), this]
theorem coefB_take {c : List Int} (h : coefB c = true) (d : Nat) : coefB (c.take d) = true := coefB_iff.2 fun x hx => coefB_iff.1 h x (List.mem_of_mem_take hx)
theorem leastW_lst {r : Rw} {v : Nat} (hb : coefB r.coef = true) (hl : r.coef.length = v) (hv : v ≤ 12) {d s : Nat} (hd : d ≤ v) (hs : s < 2 ^ d) : leastW r d s = lstG r.coef d s v := by
  have hp : 2 ^ d ≤ 2 ^ 12 := Nat.pow_le_pow_right (by omega) (by omega)
  have h0 : chosenW (r.coef.take d) s = lstG r.coef d s d := by
    rw [chosenW_sum (coefB_take hb d) (by omega) (by simp; omega), lstG_low _ _ (Nat.le_refl _)]
    unfold sumS
    rw [show (r.coef.take d).length = d by simp; omega, sumG_take _ _ _ _ (Nat.le_refl _)]
  unfold leastW
  rw [h0]
  have key : ∀ k, d + k ≤ v → leastT (r.coef.drop d) (lstG r.coef d s d) k = lstG r.coef d s (d + k) := by
    intro k
    induction k with
    | zero => intro _; rfl
    | succ k ih =>
      intro hk
      have hr := lstG_range hb d s (d + k)
      have hc := coef_getD hb (d + k)
      have e : (r.coef.drop d).getD k 0 = r.coef.getD (d + k) 0 := by simp [List.getD]
      have e2 : d + (k + 1) = (d + k) + 1 := by omega
      rw [e2]
      simp only [leastT, lstG, ih (by omega), e, if_neg (show ¬ d + k < d by omega)]
      have e3 : minV 0 (r.coef.getD (d + k) 0) = if r.coef.getD (d + k) 0 < 0 then r.coef.getD (d + k) 0 else 0 := rfl
      rw [e3]
      have : ((d + k : Nat) : Int) * 1000000000 ≤ 12 * 1000000000 := by omega
      split <;> rw [w64 (by omega)]
  rw [key (r.coef.drop d).length (by simp; omega)]
  congr 1; simp; omega
theorem lstG_le (c : List Int) {d s t : Nat} (ht : t % 2 ^ d = s) : ∀ k, lstG c d s k ≤ sumG c t k
  | 0 => Int.le_refl _
  | k + 1 => by
    have ih := lstG_le c ht k
    simp only [lstG, sumG]
    by_cases h : k < d
    · rw [if_pos h]
      have : s.testBit k = t.testBit k := by rw [← ht, Nat.testBit_mod_two_pow]; simp [h]
      rw [this]; split <;> omega
    · rw [if_neg h]; split <;> split <;> omega
/-! #### what is decided -/
def decL (v d s : Nat) : List Int := (List.range v).map fun k => if k < d then (if s.testBit k then 1 else 0) else -1
theorem decL_length (v d s : Nat) : (decL v d s).length = v := by simp [decL]
theorem decL_getD {v d s k : Nat} (h : k < v) : (decL v d s).getD k 0 = if k < d then (if s.testBit k then 1 else 0) else -1 := by simp [decL, List.getD, List.getElem?_range h]
theorem decL_0 (v : Nat) : decL v 0 0 = List.replicate v (-1) := by
  apply List.ext_getElem (by simp [decL])
  intro i h1 h2
  simp [decL]
theorem decL_set0 {v d s : Nat} (h : d < v) (hs : s < 2 ^ d) : (decL v d s).set d 0 = decL v (d + 1) s := by
  apply List.ext_getElem (by simp [decL])
  intro i h1 h2
  simp only [decL, List.getElem_set, List.getElem_map, List.getElem_range]
  by_cases e : d = i
  · subst e
    have : s.testBit d = false := Nat.testBit_lt_two_pow hs
    simp [this]
  · rw [if_neg e]
    by_cases h3 : i < d
    · simp [h3, show i < d + 1 by omega]
    · simp [h3, show ¬ i < d + 1 by omega]
theorem decL_set1 {v d s : Nat} (h : d < v) (hs : s < 2 ^ d) : (decL v d s).set d 1 = decL v (d + 1) (s + 2 ^ d) := by
  apply List.ext_getElem (by simp [decL])
  intro i h1 h2
  simp only [decL, List.getElem_set, List.getElem_map, List.getElem_range]
  have ho : s + 2 ^ d = 2 ^ d ||| s := by rw [Nat.add_comm]; simpa using Nat.two_pow_add_eq_or_of_lt hs 1
  rw [ho, Nat.testBit_or, Nat.testBit_two_pow]
  by_cases e : d = i
  · subst e; simp
  · rw [if_neg e]
    by_cases h3 : i < d
    · simp [h3, show i < d + 1 by omega, e]
    · simp [h3, show ¬ i < d + 1 by omega]
/-- The sum of a leaf. -/
def lfG (c dec : List Int) : Nat → Int
  | 0 => 0
  | k + 1 => if (decide (dec.getD k 0 = 1) || (decide (dec.getD k 0 < 0) && decide (c.getD k 0 < 0))) = true then IntKind.i64.wrap (lfG c dec k + c.getD k 0) else lfG c dec k
theorem lfG_t {c dec : List Int} {k : Nat} (h : dec.getD k 0 = 1 ∨ dec.getD k 0 < 0 ∧ c.getD k 0 < 0) : lfG c dec (k + 1) = IntKind.i64.wrap (lfG c dec k + c.getD k 0) := by simp only [lfG]; rw [if_pos]; simpa using h
theorem lfG_f {c dec : List Int} {k : Nat} (h : ¬ dec.getD k 0 = 1 ∧ (¬ dec.getD k 0 < 0 ∨ ¬ c.getD k 0 < 0)) : lfG c dec (k + 1) = lfG c dec k := by
  simp only [lfG]; rw [if_neg]
  simp only [Bool.or_eq_true, Bool.and_eq_true, decide_eq_true_eq]; omega
theorem lfG_lst {c : List Int} (hb : coefB c = true) {v d s : Nat} (hv : v ≤ 12) : ∀ k, k ≤ v → lfG c (decL v d s) k = lstG c d s k
  | 0, _ => rfl
  | k + 1, hk => by
    have ih := lfG_lst hb (d := d) (s := s) hv k (by omega)
    have hr := lstG_range hb d s k
    have hc := coef_getD hb k
    have hd := decL_getD (d := d) (s := s) (show k < v by omega)
    have hw : IntKind.i64.wrap (lstG c d s k + c.getD k 0) = lstG c d s k + c.getD k 0 := w64 (by omega)
    simp only [lstG]
    by_cases h : k < d
    · rw [if_pos h] at hd ⊢
      by_cases hb2 : s.testBit k = true
      · rw [if_pos hb2] at hd ⊢
        rw [lfG_t (.inl hd), ih, hw]
      · rw [if_neg hb2] at hd ⊢
        rw [lfG_f (by omega), ih]; omega
    · rw [if_neg h] at hd ⊢
      by_cases hn : c.getD k 0 < 0
      · rw [if_pos hn, lfG_t (.inr (by omega)), ih, hw]
      · rw [if_neg hn, lfG_f (by omega), ih]; omega
/-! #### the tree -/
def atLeaf (rows : List Rw) (l : List Stp) (d s p : Nat) : Prop := p < l.length ∧ l.getD p stp0 = ⟨-1, 0, 0, some (idxOf (overB d s) rows)⟩
def layT (rows : List Rw) (l : List Stp) : Nat → Nat → Nat → Nat → Prop
  | 0, d, s, p => atLeaf rows l d s p
  | n + 1, d, s, p => (0 ≤ idxOf (overB d s) rows ∧ atLeaf rows l d s p) ∨ (¬ 0 ≤ idxOf (overB d s) rows ∧ ∃ no yes : Nat, p < no ∧ p < yes ∧ p < l.length ∧ l.getD p stp0 = ⟨d, no, yes, none⟩ ∧ layT rows l n (d + 1) s no ∧ layT rows l n (d + 1) (s + 2 ^ d) yes)
theorem layT_mono {rows : List Rw} {l l' : List Stp} : ∀ {n d s p : Nat}, (∀ i, p ≤ i → i < l.length → i < l'.length ∧ l'.getD i stp0 = l.getD i stp0) → layT rows l n d s p → layT rows l' n d s p
  | 0, d, s, p, h, ⟨h1, h2⟩ => ⟨(h p (Nat.le_refl _) h1).1, (h p (Nat.le_refl _) h1).2.trans h2⟩
  | n + 1, d, s, p, h, .inl ⟨h0, h1, h2⟩ => .inl ⟨h0, (h p (Nat.le_refl _) h1).1, (h p (Nat.le_refl _) h1).2.trans h2⟩
  | n + 1, d, s, p, h, .inr ⟨h0, no, yes, a1, a2, a3, a4, a5, a6⟩ => .inr ⟨h0, no, yes, a1, a2, (h p (Nat.le_refl _) a3).1, (h p (Nat.le_refl _) a3).2.trans a4,
      layT_mono (fun i hi hl => h i (by omega) hl) a5, layT_mono (fun i hi hl => h i (by omega) hl) a6⟩
theorem layT_grow (rows : List Rw) : ∀ (n d s : Nat) (out : List Stp), d + n ≤ 12 → s < 2 ^ d → layT rows (growN rows n d s out) n d s out.length
  | 0, d, s, out, _, _ => ⟨by simp [growN], by simp [growN, List.getD]⟩
  | n + 1, d, s, out, hd, hs => by
    by_cases h0 : 0 ≤ idxOf (overB d s) rows
    · refine .inl ⟨h0, ?_⟩
      rw [growN_leaf h0]
      exact ⟨by simp, by simp [List.getD]⟩
    · have hsb := setBit_nat hs (show d ≤ 12 by omega)
      have l1 := layT_grow rows n (d + 1) s (out ++ [⟨d, 0, 0, none⟩]) (by omega) (by rw [Nat.pow_succ]; omega)
      have g1 := growN_length rows n (d + 1) s (out ++ [⟨d, 0, 0, none⟩])
      generalize ho1 : growN rows n (d + 1) s (out ++ [⟨d, 0, 0, none⟩]) = o1 at l1 g1
      have l2 := layT_grow rows n (d + 1) (s + 2 ^ d) o1 (by omega) (by rw [Nat.pow_succ]; omega)
      have g2 := growN_length rows n (d + 1) ((s + 2 ^ d : Nat) : Int) o1
      simp only [List.length_append, List.length_cons, List.length_nil] at l1 g1
      have e : growN rows (n + 1) d s out = (growN rows n (d + 1) ((s + 2 ^ d : Nat) : Int) o1).set out.length ⟨d, out.length + 1, o1.length, none⟩ := by
        simp only [growN, if_neg h0, hsb, ho1]
      rw [e]
      have hset : ∀ (l : List Stp) (x : Stp) (i : Nat), out.length < i → (l.set out.length x).getD i stp0 = l.getD i stp0 := fun l x i hi => by
        simp only [List.getD, List.getElem?_set_ne (show out.length ≠ i by omega)]
      refine .inr ⟨h0, out.length + 1, o1.length, by omega, by omega, by rw [List.length_set]; omega, getD_set_self (by omega), ?_, ?_⟩
      · refine layT_mono (fun i hi hl => ⟨by rw [List.length_set]; omega, ?_⟩) l1
        rw [hset _ _ _ (by omega), growN_pre rows n _ _ _ i hl]
      · refine layT_mono (fun i hi hl => ⟨by rw [List.length_set]; exact hl, ?_⟩) l2
        exact hset _ _ _ (by omega)
def leafB (rows2 : List Rw) (v : Nat) (i : Int) (d s : Nat) : Bool := decide ((rows2.getD i.toNat rw0).most < lfG (rows2.getD i.toNat rw0).coef (decL v d s) v)
def treeB (rows2 rows : List Rw) (v : Nat) : Nat → Nat → Nat → Bool
  | 0, d, s => leafB rows2 v (idxOf (overB d s) rows) d s
  | n + 1, d, s => if 0 ≤ idxOf (overB d s) rows then leafB rows2 v (idxOf (overB d s) rows) d s else treeB rows2 rows v n (d + 1) s && treeB rows2 rows v n (d + 1) (s + 2 ^ d)
theorem idx_at {α : Type} (dflt : α) {p : α → Bool} : ∀ {xs : List α}, 0 ≤ idxOf p xs → (idxOf p xs).toNat < xs.length ∧ p (xs.getD (idxOf p xs).toNat dflt) = true
  | [], h => by simp [idxOf] at h
  | x :: xs, h => by
    by_cases hp : p x = true
    · simp only [idxOf, hp, if_true]; simp [hp]
    · have hf : p x = false := by simpa using hp
      by_cases hr : idxOf p xs < 0
      · simp [idxOf, hf, hr] at h
      · have e : idxOf p (x :: xs) = idxOf p xs + 1 := by simp [idxOf, hf, hr]
        obtain ⟨h1, h2⟩ := idx_at dflt (p := p) (xs := xs) (by omega)
        rw [e, show (idxOf p xs + 1).toNat = (idxOf p xs).toNat + 1 by omega]
        exact ⟨by simpa using h1, by simpa using h2⟩
def okRws (rows : List Rw) (v : Nat) : Prop := ∀ r ∈ rows, r.coef.length = v ∧ coefB r.coef = true
theorem tree_true {rows : List Rw} {v : Nat} (hv : v ≤ 12) (hr : okRws rows v) : ∀ (n d s : Nat), d + n = v → s < 2 ^ d → infN rows n d s → treeB rows rows v n d s = true := by
  have leaf : ∀ d s : Nat, d ≤ v → s < 2 ^ d → 0 ≤ idxOf (overB d s) rows → leafB rows v (idxOf (overB d s) rows) d s = true := fun d s hd hs h => by
    obtain ⟨h1, h2⟩ := idx_at rw0 h
    obtain ⟨k1, k2⟩ := hr _ (getD_mem (d := rw0) h1)
    simp only [overB, decide_eq_true_eq] at h2
    rw [leastW_lst k2 k1 hv hd hs] at h2
    simp only [leafB, decide_eq_true_eq]
    rw [lfG_lst k2 hv v (Nat.le_refl _)]; exact h2
  intro n
  induction n with
  | zero => intro d s hd hs h; exact leaf d s (by omega) hs h
  | succ n ih =>
    intro d s hd hs h
    simp only [treeB]
    split
    · rename_i h0; exact leaf d s (by omega) hs h0
    · rename_i h0
      rcases h with h | ⟨h1, h2⟩
      · exact (h0 h).elim
      · rw [setBit_nat hs (by omega)] at h2
        rw [ih (d + 1) s (by omega) (by rw [Nat.pow_succ]; omega) h1, ih (d + 1) (s + 2 ^ d) (by omega) (by rw [Nat.pow_succ]; omega) h2]
        rfl
/-- A choice t that is not refuted: the leaf that holds it does not. -/
theorem tree_false {rows2 rows : List Rw} {v : Nat} (hv : v ≤ 12) (hr : okRws rows v) (hr2 : okRws rows2 v) (hlen : rows2.length = rows.length) {t : Nat} (ht : t < 2 ^ v)
    (hno : ∀ i, i < rows.length → (rows.getD i rw0).most < sumG (rows.getD i rw0).coef t v → sumG (rows2.getD i rw0).coef t v ≤ (rows2.getD i rw0).most) :
    ∀ (n d s : Nat), d + n = v → s < 2 ^ d → t % 2 ^ d = s → infN rows n d s → treeB rows2 rows v n d s = false := by
  have leaf : ∀ d s : Nat, d ≤ v → s < 2 ^ d → t % 2 ^ d = s → 0 ≤ idxOf (overB d s) rows → leafB rows2 v (idxOf (overB d s) rows) d s = false := fun d s hd hs he h => by
    obtain ⟨h1, h2⟩ := idx_at rw0 h
    obtain ⟨k1, k2⟩ := hr _ (getD_mem (d := rw0) h1)
    obtain ⟨j1, j2⟩ := hr2 _ (getD_mem (d := rw0) (show (idxOf (overB d s) rows).toNat < rows2.length by omega))
    simp only [overB, decide_eq_true_eq] at h2
    rw [leastW_lst k2 k1 hv hd hs] at h2
    have h3 := lstG_le (rows.getD (idxOf (overB d s) rows).toNat rw0).coef he v
    have h4 := hno _ h1 (by omega)
    have h5 := lstG_le (rows2.getD (idxOf (overB d s) rows).toNat rw0).coef he v
    simp only [leafB, decide_eq_false_iff_not]
    rw [lfG_lst j2 hv v (Nat.le_refl _)]; omega
  intro n
  induction n with
  | zero => intro d s hd hs he h; exact leaf d s (by omega) hs he h
  | succ n ih =>
    intro d s hd hs he h
    simp only [treeB]
    split
    · rename_i h0; exact leaf d s (by omega) hs he h0
    · rename_i h0
      rcases h with h | ⟨h1, h2⟩
      · exact (h0 h).elim
      · rw [setBit_nat hs (by omega)] at h2
        have hm : t % 2 ^ (d + 1) = s ∨ t % 2 ^ (d + 1) = s + 2 ^ d := by
          have h6 : t % 2 ^ (d + 1) = t % 2 ^ d + 2 ^ d * (t / 2 ^ d % 2) := by rw [Nat.pow_succ, Nat.mod_mul]
          rw [h6, he]
          rcases Nat.mod_two_eq_zero_or_one (t / 2 ^ d) with h7 | h7 <;> rw [h7]
          · left; omega
          · right; omega
        rcases hm with hm | hm
        · rw [ih (d + 1) s (by omega) (by rw [Nat.pow_succ]; omega) hm h1]; rfl
        · rw [ih (d + 1) (s + 2 ^ d) (by omega) (by rw [Nat.pow_succ]; omega) hm h2, Bool.and_false]
/-! #### for Solve -/
def negP (g : List Int) (i : Nat) : List Int := negG g i ++ List.replicate (g.length - i) 0
theorem negP_length {g : List Int} {i : Nat} (h : i ≤ g.length) : (negP g i).length = g.length := by simp [negP, negG_length]; omega
theorem negP_set {g : List Int} {i : Nat} (h : i < g.length) : (negP g i).set i (IntKind.i64.wrap (0 - g.getD i 0)) = negP g (i + 1) := by
  unfold negP
  rw [negG_succ h]
  obtain ⟨k, hk⟩ : ∃ k, g.length - i = k + 1 := ⟨g.length - i - 1, by omega⟩
  have hl : (negG g i).length = i := by rw [negG_length]; omega
  rw [hk, List.replicate_succ, List.set_append, if_neg (by omega), hl, Nat.sub_self, List.set_cons_zero, show g.length - (i + 1) = k by omega]
  simp
theorem negP_0 (g : List Int) : negP g 0 = List.replicate g.length 0 := by simp [negP, negG]
theorem negP_end (g : List Int) : negP g g.length = negG g g.length := by simp [negP]
/-- The one row of a leaf, so far. -/
def sumP (c : List Int) (v i : Nat) : List Int := ((List.range i).map fun k => c.getD k 0) ++ List.replicate (v - i) 0
theorem sumP_length {c : List Int} {v i : Nat} (h : i ≤ v) : (sumP c v i).length = v := by simp [sumP]; omega
theorem sumP_at {c : List Int} {v i : Nat} (h : i < v) : (sumP c v i).getD i 0 = 0 := by
  obtain ⟨k, hk⟩ : ∃ k, v - i = k + 1 := ⟨v - i - 1, by omega⟩
  simp [sumP, List.getD, List.getElem?_append_right, hk]
theorem sumP_set {c : List Int} {v i : Nat} (h : i < v) : (sumP c v i).set i (c.getD i 0) = sumP c v (i + 1) := by
  unfold sumP
  obtain ⟨k, hk⟩ : ∃ k, v - i = k + 1 := ⟨v - i - 1, by omega⟩
  rw [hk, List.replicate_succ, List.set_append, if_neg (by simp), List.length_map, List.length_range, Nat.sub_self, List.set_cons_zero, List.range_succ, List.map_append, show v - (i + 1) = k by omega]
  simp
theorem sumP_0 (c : List Int) (v : Nat) : sumP c v 0 = List.replicate v 0 := by simp [sumP]
theorem sumP_end {c : List Int} {v : Nat} (h : c.length = v) : sumP c v v = c := by
  unfold sumP
  rw [Nat.sub_self, List.replicate_zero, List.append_nil]
  apply List.ext_getElem (by simp [h])
  intro i h1 h2
  simp [List.getD, h2]
/-- The reference's goal. -/
def goalR (p : Pg) (g : Int) : Rw := ⟨0, 0, 0, 0, negG p.gain p.gain.length, IntKind.i64.wrap (IntKind.i64.wrap (0 - g) - 1)⟩
theorem goalR_eq {p : Pg} {g : Int} (h : -100000000000 ≤ g ∧ g ≤ 100000000000) : goalR p g = goalW p g := by
  unfold goalR goalW
  rw [w64 (x := 0 - g) (by omega), w64 (x := g + 1) (by omega), w64 (x := (0 - g) - 1) (by omega), w64 (by omega), show 0 - g - 1 = 0 - (g + 1) by omega]
theorem okRws_goal {p : Pg} (hv : validB p = true) (g : Int) : okRws (p.rows ++ [goalW p g]) p.vars.toNat := by
  obtain ⟨h0, h1, h2, h3, h4, h5⟩ := validB_all hv
  intro r hr
  rcases List.mem_append.1 hr with hr | hr
  · obtain ⟨k1, k2, -⟩ := h5 r hr; exact ⟨by omega, k2⟩
  · rw [List.mem_singleton] at hr; subst hr
    exact ⟨by simp only [goalW, negG_length]; omega, by simp only [goalW]; rw [negG_neg h4]; exact coefB_neg h4⟩
theorem okRws_rows {p : Pg} (hv : validB p = true) : okRws p.rows p.vars.toNat := fun r hr => okRws_goal hv 0 r (List.mem_append_left _ hr)
theorem proof_refutes {p : Pg} (hv : validB p = true) {v : Nat} (e : p.vars = v) : treeB (solRows p (solveB p)) (solRows p (solveB p)) v v 0 0 = true := by
  obtain ⟨h0, h1, h2, h3, h4, h5⟩ := validB_all hv
  have hi := solve_inf hv
  rw [e] at hi
  simp only [Int.toNat_natCast] at hi
  refine tree_true (by omega) (fun r hr => ?_) v 0 0 (by omega) (by simp) hi
  unfold solRows at hr
  split at hr
  · have := okRws_goal hv _ r hr; rw [e] at this; simpa using this
  · have := okRws_rows hv r hr; rw [e] at this; simpa using this
theorem proof_less {p : Pg} (hv : validB p = true) {v : Nat} (e : p.vars = v) (hf : (solveB p).1 = true) : treeB (p.rows ++ [goalW p ((solveB p).2.2 - 1)]) (solRows p (solveB p)) v v 0 0 = false := by
  obtain ⟨h0, h1, h2, h3, h4, h5⟩ := validB_all hv
  have hi := solve_inf hv
  rw [e] at hi
  simp only [Int.toNat_natCast] at hi
  obtain ⟨s, hs1, hs2, hs3⟩ := solveB_mem hf
  obtain ⟨s', hs1', -, hs4, hs5, hs6⟩ := solveB_gain hv hf
  have : s' = s := by omega
  subst this
  rw [e] at hs2
  simp only [Int.toNat_natCast] at hs2
  have hp : 2 ^ v ≤ 2 ^ 12 := Nat.pow_le_pow_right (by omega) (by omega)
  have ev : p.vars.toNat = v := by omega
  have esol := solRows_t (p := p) hf
  have hgs : ∀ g, sumG (goalW p g).coef s' v = - sumS p.gain s' := fun g => by
    have h6 := goal_sum hv (show s' < 65536 by omega)
    have hb : coefB (negG p.gain p.gain.length) = true := by rw [negG_neg h4]; exact coefB_neg h4
    rw [chosenW_sum hb (by omega) (by rw [negG_length]; omega)] at h6
    rw [← h6]
    show sumG (negG p.gain p.gain.length) s' v = sumG (negG p.gain p.gain.length) s' (negG p.gain p.gain.length).length
    rw [negG_length]; congr 1; omega
  rw [esol] at hi ⊢
  refine tree_false (by omega) (ev ▸ okRws_goal hv _) (ev ▸ okRws_goal hv _) (by simp) hs2 (fun i hi2 hb => ?_) v 0 0 (by omega) (by simp) (by simp; exact Nat.mod_one _) hi
  by_cases hil : i < p.rows.length
  · exfalso
    have e1 : (p.rows ++ [goalW p (solveB p).2.2]).getD i rw0 = p.rows.getD i rw0 := by simp [List.getD, List.getElem?_append_left hil]
    rw [e1] at hb
    have hr := getD_mem (d := rw0) hil
    have hk := (List.all_eq_true.1 hs3) _ hr
    rw [keptB_in hv e hr hs2, decide_eq_true_eq] at hk
    omega
  · have hie : i = p.rows.length := by simp at hi2; omega
    subst hie
    have e1 : (p.rows ++ [goalW p ((solveB p).2.2 - 1)]).getD p.rows.length rw0 = goalW p ((solveB p).2.2 - 1) := by simp [List.getD]
    rw [e1, hgs, goal_most (by omega), ← hs4]; omega
end Go.Proofs.YtaaongcfeldcoaaDoor

namespace Go.Proofs.YtaaongcfeldcoaaDoor
open Go.RowKit
set_option linter.unusedVariables false
set_option linter.unusedSimpArgs false
def coefP (h : Hr) (c : Of → Int) (i : Nat) : List Int := (h.offers.take i).map c ++ List.replicate (h.offers.length - i) 0
theorem coefP_length (h : Hr) (c : Of → Int) {i : Nat} (hi : i ≤ h.offers.length) : (coefP h c i).length = h.offers.length := by simp [coefP]; omega
theorem coefP_0 (h : Hr) (c : Of → Int) : coefP h c 0 = List.replicate h.offers.length 0 := by simp [coefP]
theorem coefP_end (h : Hr) (c : Of → Int) : coefP h c h.offers.length = coefF h c := by simp [coefP, coefF]
theorem coefP_set (h : Hr) (c : Of → Int) {i : Nat} (hi : i < h.offers.length) : (coefP h c i).set i (c (h.offers.getD i of0)) = coefP h c (i + 1) := by
  unfold coefP
  have e : h.offers.length - i = (h.offers.length - (i + 1)) + 1 := by omega
  have hl : ((h.offers.take i).map c).length = i := by simp; omega
  rw [e, List.replicate_succ, List.set_append_right _ _ (by omega), hl, Nat.sub_self, List.set_cons_zero, take_snoc c of0 hi, List.append_assoc]
  rfl
def nzT (h : Hr) (c : Of → Int) : Nat → Nat
  | 0 => 0
  | n + 1 => if c (h.offers.getD n of0) = 0 then nzT h c n else nzT h c n + 1
theorem nzT_le (h : Hr) (c : Of → Int) : ∀ n, nzT h c n ≤ n
  | 0 => Nat.le_refl _
  | n + 1 => by have := nzT_le h c n; simp only [nzT]; split <;> omega
theorem nzT_end (h : Hr) (c : Of → Int) : nzT h c h.offers.length = nzF h c := by
  have : ∀ n, n ≤ h.offers.length → nzT h c n = ((h.offers.take n).filter fun o => !decide (c o = 0)).length := by
    intro n
    induction n with
    | zero => intro _; rfl
    | succ n ih =>
      intro hn
      rw [List.take_add_one, List.getElem?_eq_getElem (show n < h.offers.length by omega), List.filter_append, List.length_append, ← ih (by omega)]
      have e : h.offers.getD n of0 = h.offers[n] := by simp [List.getD, show n < h.offers.length by omega]
      simp only [nzT, e, Option.toList]
      by_cases hc : c h.offers[n] = 0 <;> simp [hc]
  have h2 := this _ (Nat.le_refl _)
  rw [List.take_length] at h2
  exact h2
theorem roomRs_s (h : Hr) (i : Nat) : roomRs h (i + 1) = roomRs h i ++ [roomR h i] := by simp [roomRs, List.range_succ]
theorem onceRs_t {h : Hr} {n : Nat} (hx : 1 < ((nzF h (oneC 1 (isP n)) : Nat) : Int)) : onceRs h (n + 1) = onceRs h n ++ [onceR h n] := by simp only [onceRs]; rw [if_pos (by omega)]
theorem onceRs_f {h : Hr} {n : Nat} (hx : ¬ 1 < ((nzF h (oneC 1 (isP n)) : Nat) : Int)) : onceRs h (n + 1) = onceRs h n := by simp only [onceRs]; rw [if_neg (by omega)]
theorem apartRs_t {h : Hr} {a : P2} {n : Nat} (hx : 1 < ((nzF h (oneC 1 (isA a n)) : Nat) : Int)) : apartRs h a (n + 1) = apartRs h a n ++ [apartR h a n] := by simp only [apartRs]; rw [if_pos (by omega)]
theorem apartRs_f {h : Hr} {a : P2} {n : Nat} (hx : ¬ 1 < ((nzF h (oneC 1 (isA a n)) : Nat) : Int)) : apartRs h a (n + 1) = apartRs h a n := by simp only [apartRs]; rw [if_neg (by omega)]
theorem mustRs_s {h : Hr} {i : Nat} (hi : i < h.must.length) : mustRs h (i + 1) = mustRs h i ++ [mustR h (h.must.getD i 0)] := by
  exact take_snoc _ _ hi
theorem roomRs_len (h : Hr) (n : Nat) : (roomRs h n).length = n := by simp [roomRs]
theorem mustRs_len (h : Hr) (n : Nat) : (mustRs h n).length ≤ n := by simp [mustRs]; omega
theorem app3 (R A P X : List Rw) : R ++ (A ++ (P ++ X)) = R ++ (A ++ P) ++ X := by simp
def valsT (h : Hr) (i : Nat) : List Int := (h.offers.take i).map (·.vl)
theorem valsT_s {h : Hr} {i : Nat} (hi : i < h.offers.length) : valsT h (i + 1) = valsT h i ++ [(h.offers.getD i of0).vl] := by
  exact take_snoc _ _ hi
theorem valsT_len (h : Hr) (i : Nat) : (valsT h i).length ≤ i := by simp [valsT]; omega
theorem valsT_end (h : Hr) : valsT h h.offers.length = h.offers.map (·.vl) := by simp [valsT]
end Go.Proofs.YtaaongcfeldcoaaDoor

namespace Go.Proofs.YtaaongcfeldcoaaDoor
open Go.RowKit
set_option linter.unusedVariables false
set_option linter.unusedSimpArgs false
/-- The promises that a choice keeps. -/
def keptW (h : Hr) (s : Int) : Nat → List Int
  | 0 => []
  | n + 1 => if 0 < (tal h s h.offers.length).getD n 0 then keptW h s n ++ [(n : Int)] else keptW h s n
theorem keptW_len (h : Hr) (s : Int) : ∀ n, (keptW h s n).length ≤ n
  | 0 => by simp [keptW]
  | n + 1 => by have := keptW_len h s n; simp only [keptW]; split <;> (try simp) <;> omega
theorem keptW_t {h : Hr} {s : Int} {n : Nat} (hx : 0 < (tal h s h.offers.length).getD n 0) : keptW h s (n + 1) = keptW h s n ++ [(n : Int)] := by simp only [keptW]; rw [if_pos hx]
theorem keptW_f {h : Hr} {s : Int} {n : Nat} (hx : ¬ 0 < (tal h s h.offers.length).getD n 0) : keptW h s (n + 1) = keptW h s n := by simp only [keptW]; rw [if_neg hx]
def keptV (h : Hr) (s : Int) : List V := if validH h && choiceH h s then [.sl 1 (encI (keptW h s 12)), .int .i64 0] else [.nsl, .int .i64 250]
theorem keptW_H {h : Hr} (hV : VH h) (s : Nat) : ∀ n, n ≤ 12 → keptW h s n = keptH h s n
  | 0, _ => rfl
  | n + 1, hn => by
    have := (tal_at hV s h.offers.length (Nat.le_refl _)).many n (by omega)
    simp only [keptW, keptH, this, keptW_H hV s n (by omega)]
/-- When the offers of a choice are on the air. -/
def plcT (h : Hr) (s : Int) (k : Nat) (at0 : Int) : Nat → Int × List T3
  | 0 => (at0, [])
  | n + 1 =>
    let p := plcT h s k at0 n
    if decide ((h.offers.getD n of0).rm = k) && tkn s n then (IntKind.i64.wrap (p.1 + (h.offers.getD n of0).ln), p.2 ++ [⟨p.1, IntKind.i64.wrap (p.1 + (h.offers.getD n of0).ln), IntKind.i64.wrap ((h.offers.getD n of0).pr + 1)⟩]) else p
def plcW (h : Hr) (s : Int) : Nat → List T3
  | 0 => []
  | k + 1 => plcW h s k ++ (plcT h s k (h.rooms.getD k sp0).fr h.offers.length).2
theorem plcT_len (h : Hr) (s : Int) (k : Nat) (a : Int) : ∀ n, (plcT h s k a n).2.length ≤ n
  | 0 => by simp [plcT]
  | n + 1 => by have := plcT_len h s k a n; simp only [plcT]; split <;> (try simp) <;> omega
theorem plcW_len (h : Hr) (s : Int) : ∀ k, (plcW h s k).length ≤ k * h.offers.length
  | 0 => by simp [plcW]
  | k + 1 => by have := plcW_len h s k; have := plcT_len h s k (h.rooms.getD k sp0).fr h.offers.length; simp only [plcW, List.length_append]; rw [Nat.add_mul]; omega
theorem plcT_t {h : Hr} {s : Int} {k : Nat} {a : Int} {n : Nat} (h1 : (h.offers.getD n of0).rm = k) (h2 : tkn s n = true) : plcT h s k a (n + 1) = (IntKind.i64.wrap ((plcT h s k a n).1 + (h.offers.getD n of0).ln), (plcT h s k a n).2 ++ [⟨(plcT h s k a n).1, IntKind.i64.wrap ((plcT h s k a n).1 + (h.offers.getD n of0).ln), IntKind.i64.wrap ((h.offers.getD n of0).pr + 1)⟩]) := by
  simp only [plcT]; rw [if_pos (by rw [h2, decide_eq_true h1]; rfl)]
theorem plcT_f {h : Hr} {s : Int} {k : Nat} {a : Int} {n : Nat} (hx : (h.offers.getD n of0).rm = k → tkn s n = false) : plcT h s k a (n + 1) = plcT h s k a n := by
  simp only [plcT]; rw [if_neg]
  intro hb
  simp only [Bool.and_eq_true, decide_eq_true_eq] at hb
  rw [hx hb.1] at hb; cases hb.2
def plcV (h : Hr) (s : Int) : List V := if keepsH h s then [.sl 3 (encT (plcW h s h.rooms.length)), .int .i64 0] else [.nsl, .int .i64 250]
theorem encT_snoc (a : List T3) (t : T3) : encT (a ++ [t]) = encT a ++ [[V.int .i64 t.p, V.int .i64 t.q, V.int .i64 t.r]] := by simp [encT]
theorem kept_no {h : Hr} {s : Int} (hx : validH h = false ∨ choiceH h s = false) : keptV h s = [.nsl, .int .i64 250] := by
  unfold keptV
  rcases hx with e | e <;> rw [e] <;> simp
theorem kept_t {h : Hr} {s : Int} (hv : validH h = true) (hc : choiceH h s = true) : keptV h s = [.sl 1 (encI (keptW h s 12)), .int .i64 0] := by unfold keptV; rw [hv, hc]; rfl
theorem cellsI_take2 (xs : List Int) (n : Nat) : List.take n (cellsI xs) = cellsI (xs.take n) := by unfold cellsI; rw [List.map_take]
theorem keeps_valid {h : Hr} {s : Int} (hk : keepsH h s = true) : validH h = true := by
  simp only [keepsH, Bool.and_eq_true] at hk; exact hk.1
theorem plc_no {h : Hr} {s : Int} {k i : Nat} (hx : ¬ (h.offers.getD i of0).rm = k ∨ ¬ bitsV .and .i64 (shrW .i64 s i) 1 = 1) : (h.offers.getD i of0).rm = k → tkn s i = false := by
  intro e
  rcases hx with h1 | h1
  · exact absurd e h1
  · exact decide_eq_false h1
theorem cellsI_noL (j : Nat) : ∀ xs : List Int, V.noL j (cellsI xs) = true
  | [] => rfl
  | x :: xs => by have := cellsI_noL j xs; simpa [cellsI, V.noL, V.no] using this
theorem cellsI_renL (i j : Nat) : ∀ xs : List Int, V.renL i j (cellsI xs) = cellsI xs
  | [] => rfl
  | x :: xs => by have := cellsI_renL i j xs; simpa [cellsI, V.renL, V.ren] using this
end Go.Proofs.YtaaongcfeldcoaaDoor

namespace Go.Proofs
open Go.Shelf
def Tryd.lays189_ren : Go.Shelf.Ren := ⟨fun | 189 => 33 | 125 => 65 | 257 => 64 | 128 => 97 | 129 => 98 | 294 => 88 | 295 => 89 | 296 => 90 | 297 => 91 | 298 => 92 | 299 => 93 | 216 => 94 | 300 => 95 | 301 => 96 | 328 => 100 | 329 => 101 | 330 => 102 | 331 => 103 | 332 => 104 | 215 => 69 | 343 => 105 | n => n, fun | 28 => 29 | 3 => 3 | 46 => 121 | 0 => 0 | 51 => 142 | 53 => 144 | 4 => 4 | 183 => 134 | 182 => 133 | 131 => 139 | 5 => 5 | 9 => 9 | 218 => 145 | 222 => 149 | 228 => 151 | 229 => 152 | n => n, fun | n => n⟩
theorem Tryd.lays189 : Go.Proofs.Lays.n189 Tryd.prog Tryd.lays189_ren := {
  mixed := by kernel_rfl
  f125 := Tryd.func65.trans (congrArg some (by kernel_rfl))
  f128 := Tryd.func97.trans (congrArg some (by kernel_rfl))
  f129 := Tryd.func98.trans (congrArg some (by kernel_rfl))
  f189 := Tryd.func33.trans (congrArg some (by kernel_rfl))
  f215 := Tryd.func69.trans (congrArg some (by kernel_rfl))
  f216 := Tryd.func94.trans (congrArg some (by kernel_rfl))
  f257 := Tryd.func64.trans (congrArg some (by kernel_rfl))
  f294 := Tryd.func88.trans (congrArg some (by kernel_rfl))
  f295 := Tryd.func89.trans (congrArg some (by kernel_rfl))
  f296 := Tryd.func90.trans (congrArg some (by kernel_rfl))
  f297 := Tryd.func91.trans (congrArg some (by kernel_rfl))
  f298 := Tryd.func92.trans (congrArg some (by kernel_rfl))
  f299 := Tryd.func93.trans (congrArg some (by kernel_rfl))
  f300 := Tryd.func95.trans (congrArg some (by kernel_rfl))
  f301 := Tryd.func96.trans (congrArg some (by kernel_rfl))
  f328 := Tryd.func100.trans (congrArg some (by kernel_rfl))
  f329 := Tryd.func101.trans (congrArg some (by kernel_rfl))
  f330 := Tryd.func102.trans (congrArg some (by kernel_rfl))
  f331 := Tryd.func103.trans (congrArg some (by kernel_rfl))
  f332 := Tryd.func104.trans (congrArg some (by kernel_rfl))
  f343 := Tryd.func105.trans (congrArg some (by kernel_rfl))
  t0 := Tryd.underlying0
  a0 := Tryd.isAgg0
  z0 := Tryd.sizeOf0
  v0 := Tryd.zeroValue0
  t3 := Tryd.underlying3
  a3 := Tryd.isAgg3
  z3 := Tryd.sizeOf3
  v3 := Tryd.zeroValue3
  t4 := Tryd.underlying4
  a4 := Tryd.isAgg4
  z4 := Tryd.sizeOf4
  v4 := Tryd.zeroValue4
  t5 := Tryd.underlying5
  a5 := Tryd.isAgg5
  z5 := Tryd.sizeOf5
  v5 := Tryd.zeroValue5
  t9 := Tryd.underlying9
  a9 := Tryd.isAgg9
  z9 := Tryd.sizeOf9
  v9 := Tryd.zeroValue9
  t28 := Tryd.underlying29
  a28 := Tryd.isAgg29
  z28 := Tryd.sizeOf29
  v28 := Tryd.zeroValue29
  t46 := Tryd.underlying121
  a46 := Tryd.isAgg121
  z46 := Tryd.sizeOf121
  v46 := Tryd.zeroValue121
  t51 := Tryd.underlying142
  a51 := Tryd.isAgg142
  z51 := Tryd.sizeOf142
  v51 := Tryd.zeroValue142
  t53 := Tryd.underlying144
  a53 := Tryd.isAgg144
  z53 := Tryd.sizeOf144
  v53 := Tryd.zeroValue144
  t131 := Tryd.underlying139
  a131 := Tryd.isAgg139
  z131 := Tryd.sizeOf139
  v131 := Tryd.zeroValue139
  t182 := Tryd.underlying133
  a182 := Tryd.isAgg133
  z182 := Tryd.sizeOf133
  v182 := Tryd.zeroValue133
  t183 := Tryd.underlying134
  a183 := Tryd.isAgg134
  z183 := Tryd.sizeOf134
  v183 := Tryd.zeroValue134
  t218 := Tryd.underlying145
  a218 := Tryd.isAgg145
  z218 := Tryd.sizeOf145
  v218 := Tryd.zeroValue145
  t222 := Tryd.underlying149
  a222 := Tryd.isAgg149
  z222 := Tryd.sizeOf149
  v222 := Tryd.zeroValue149
  t228 := Tryd.underlying151
  a228 := Tryd.isAgg151
  z228 := Tryd.sizeOf151
  v228 := Tryd.zeroValue151
  t229 := Tryd.underlying152
  a229 := Tryd.isAgg152
  z229 := Tryd.sizeOf152
  v229 := Tryd.zeroValue152 }
def Tryd.lays220_ren : Go.Shelf.Ren := ⟨fun | 20 => 34 | n => n, fun | 22 => 29 | 3 => 3 | 4 => 4 | 0 => 0 | n => n, fun | n => n⟩
theorem Tryd.lays220 : Go.Proofs.Lays2.n20 Tryd.prog Tryd.lays220_ren := {
  mixed := by kernel_rfl
  f20 := Tryd.func34.trans (congrArg some (by kernel_rfl))
  t0 := Tryd.underlying0
  a0 := Tryd.isAgg0
  z0 := Tryd.sizeOf0
  v0 := Tryd.zeroValue0
  t3 := Tryd.underlying3
  a3 := Tryd.isAgg3
  z3 := Tryd.sizeOf3
  v3 := Tryd.zeroValue3
  t4 := Tryd.underlying4
  a4 := Tryd.isAgg4
  z4 := Tryd.sizeOf4
  v4 := Tryd.zeroValue4
  t22 := Tryd.underlying29
  a22 := Tryd.isAgg29
  z22 := Tryd.sizeOf29
  v22 := Tryd.zeroValue29
  i3 := by kernel_rfl }
end Go.Proofs

namespace Go.Proofs.YtaaongcfeldcoaaDoor
open Go.RowKit Go.Sort
set_option linter.unusedVariables false
set_option linter.unusedSimpArgs false
theorem grow_block (w : World) (os : Array Obj) (k : Nat) (hk : k < w.heap.size) : (grow w os).heap[k]? = w.heap[k]? := by
  simp [grow, Array.getElem?_append, hk]
theorem putRow_block (w : World) (blk off : Nat) (d : Array Int) (k : Nat) (hk : k ≠ blk) : (putRow (Value.int .i64) w blk off d).heap[k]? = w.heap[k]? := by
  simp only [putRow, mapBlock, Array.getElem?_modify]
  rw [if_neg (Ne.symm hk)]
theorem putRow_same (w : World) (blk off : Nat) (d : Array Int) {c : Array Value} {e : TypeId} {fr : Nat × Nat} (h : w.heap[blk]? = some (.cells c e fr)) : (putRow (Value.int .i64) w blk off d).heap[blk]? = some (.cells (putCells (Value.int .i64) off d c) e fr) := by
  simp only [putRow, mapBlock, Array.getElem?_modify, if_true, h, Option.map_some, onCells]
theorem putCells_size (off : Nat) (d : Array Int) (c : Array Value) : (putCells (Value.int .i64) off d c).size = c.size := by simp [putCells]
theorem putCells_take (d : List Int) (c : Array Value) (h : d.length ≤ c.size) : (putCells (Value.int .i64) 0 d.toArray c).toList.take d.length = d.map (Value.int .i64) := by
  refine List.ext_getElem (by simp [putCells]; omega) fun i h1 h2 => ?_
  have hi : i < d.length := by simpa using h2
  rw [List.getElem_take]
  simp [putCells, hi]
/-- What a row of numbers lies in. -/
theorem row_ints {w : World} {O : Nat → Prop} {ι : Nat → Nat} {ρ : Nat → Value} {nx id : Nat} {e : TypeId} {l : List Int} (h : OR w O ι ρ nx id (.row e 1 (encI l))) : w.ownsRow 0 e 1 (ρ id) l.length (l.map (Value.int .i64)) := by
  obtain ⟨xs, h1, h2, h3, h4⟩ := h
  rw [encI_length] at h1
  have hx : xs = l.map (Value.int .i64) := by
    have hl : xs.length = l.length := by have := h1.1; omega
    refine List.ext_getElem (by simp [hl]) fun i hi1 hi2 => ?_
    have hi : i < l.length := by omega
    have := h4 i 0 (by rw [encI_length]; exact hi) (by omega)
    rw [encI_getD _ _ hi] at this
    simp only [List.getD_cons_zero, Nat.mul_one, Nat.add_zero] at this
    have e2 := this.int_inv
    simp only [List.getD, List.getElem?_eq_getElem hi1, Option.getD_some, List.getElem?_eq_getElem hi] at e2
    rw [e2]; simp
  rw [hx] at h1; exact h1
theorem ints_row {w : World} {O : Nat → Prop} {ι : Nat → Nat} {ρ : Nat → Value} {nx id : Nat} {e : TypeId} {l : List Int} (h : w.ownsRow 0 e 1 (ρ id) l.length (l.map (Value.int .i64))) : OR w O ι ρ nx id (.row e 1 (encI l)) := by
  refine ⟨l.map (Value.int .i64), by rw [encI_length]; exact h, fun i hi => ?_, fun i j hi hj => ?_, fun i j hi hj => ?_⟩ <;> rw [encI_length] at hi
  · rw [encI_getD _ _ hi]; rfl
  · obtain rfl : j = 0 := by omega
    rw [encI_getD _ _ hi]; rfl
  · obtain rfl : j = 0 := by omega
    rw [encI_getD _ _ hi]
    simp only [List.getD_cons_zero, Nat.mul_one, Nat.add_zero, List.getD, List.getElem?_map, List.getElem?_eq_getElem hi, Option.map_some, Option.getD_some]
    exact .int ..
section
variable {X : Nat → Prop} {ι : Nat → Nat} {ρ : Nat → Value} {w : World} {e : TypeId} {l : List Int}
def cx1 (w : World) (X : Nat → Prop) (ι : Nat → Nat) (ρ : Nat → Value) (pre : Mem) : Cx := ⟨w, fun b => ∃ p ∈ pre, blk ι ρ p = some b, X, none, [], fun _ => undef⟩
theorem own_ints (hml : ML (cx1 w X ι ρ [(0, .row e 1 (encI l))]) [(0, .row e 1 (encI l))] 1 ι ρ w) (h0 : 0 < l.length) :
    ∃ g cap cur, ρ 0 = .slice (some ⟨g, 0, none⟩) l.length cap ∧ w.heap[g]? = some (.cells cur e (0, 0)) ∧ l.length ≤ cap ∧ cap ≤ maxLen ∧ cur.size = cap ∧ cur.toList.take l.length = l.map (Value.int .i64) ∧ g < w.heap.size ∧ ¬ X g := by
  have ho := row_ints (hml.obj _ List.mem_cons_self)
  rcases ho.2 with ⟨-, hn⟩ | ⟨g, cap, cur, h1, -, h3, h4, h5, h6, h7⟩
  · omega
  · have hb : blk ι ρ (0, AObj.row e 1 (encI l)) = some g := by show (ρ 0).ownBlock = some g; rw [h1]; rfl
    have := hml.own _ List.mem_cons_self g hb
    exact ⟨g, cap, cur, h1, h3, h4, h5, by omega, by simpa using h7, this.1, this.2.2⟩
theorem holds_ints {g cap : Nat} {cur : Array Value} (h3 : w.heap[g]? = some (.cells cur e (0, 0))) (h4 : l.length ≤ cap) (h6 : cur.size = cap) (h7 : cur.toList.take l.length = l.map (Value.int .i64)) : Holds (Value.int .i64) w g 0 l.toArray := by
  intro j hj
  have hj' : j < l.length := by simpa using hj
  refine ⟨?_, ?_⟩
  · have e1 : (cur.toList.take l.length)[j]? = some (.int .i64 l[j]) := by rw [h7]; simp [hj']
    rw [List.getElem?_take, if_pos hj'] at e1
    simp only [World.cell?, h3]
    simpa [hj'] using e1
  · simp [World.frozen?, h3]
/-- The row turned in place. -/
theorem ml_put (hml : ML (cx1 w X ι ρ [(0, .row e 1 (encI l))]) [(0, .row e 1 (encI l))] 1 ι ρ w) {g cap : Nat} {cur : Array Value} (hv : ρ 0 = .slice (some ⟨g, 0, none⟩) l.length cap) (h3 : w.heap[g]? = some (.cells cur e (0, 0))) (h4 : l.length ≤ cap) (h5 : cap ≤ maxLen) (h6 : cur.size = cap) (hg : g < w.heap.size)
    {l' : List Int} (hl : l'.length = l.length) (n : Nat) (os : Array Obj) : ML (cx1 w X ι ρ [(0, .row e 1 (encI l))]) [(0, .row e 1 (encI l'))] 1 ι ρ (grow (putRow (Value.int .i64) (Sort.ahead w n) g 0 l'.toArray) os) := by
  have hb : ∀ q : List (List V), blk ι ρ (0, AObj.row e 1 q) = some g := fun q => by show (ρ 0).ownBlock = some g; rw [hv]; rfl
  have hsz : w.heap.size ≤ (grow (putRow (Value.int .i64) (Sort.ahead w n) g 0 l'.toArray) os).heap.size := by simp [grow, putRow, mapBlock, Sort.ahead]
  have hgb : (grow (putRow (Value.int .i64) (Sort.ahead w n) g 0 l'.toArray) os).heap[g]? = some (.cells (putCells (Value.int .i64) 0 l'.toArray cur) e (0, 0)) := by
    rw [grow_block _ _ _ (by simp [putRow, mapBlock, Sort.ahead]; exact hg)]
    exact putRow_same _ _ _ _ h3
  refine ⟨hml.os, hml.tape, hml.output, hsz, fun b hb0 hd => ?_, fun p hp q hq _ => ?_, fun p hp => ?_, fun p hp b hpb => ?_, fun p hp q hq b _ _ => ?_, hml.xlt, fun p hp => ?_⟩
  · have hne : b ≠ g := fun e2 => hd ⟨_, List.mem_cons_self, by rw [hb, e2]⟩
    rw [grow_block _ _ _ (by simp [putRow, mapBlock, Sort.ahead]; exact hb0), putRow_block _ _ _ _ _ hne]; rfl
  · rw [List.mem_singleton] at hp hq; rw [hp, hq]
  · rw [List.mem_singleton] at hp; rw [hp]; exact Nat.zero_lt_one
  · rw [List.mem_singleton] at hp
    rw [hp, hb] at hpb
    obtain rfl := Option.some.inj hpb
    have := hml.own _ List.mem_cons_self g (hb _)
    exact ⟨Nat.lt_of_lt_of_le this.1 hsz, this.2⟩
  · rw [List.mem_singleton] at hp hq; rw [hp, hq]
  · rw [List.mem_singleton] at hp
    subst hp
    refine ints_row ⟨by simp, .inr ⟨g, cap, _, by rw [hl]; exact hv, Nat.zero_le _, hgb, by omega, h5, by rw [putCells_size]; omega, ?_⟩⟩
    rw [Nat.mul_one]; exact putCells_take _ _ (by omega)
end
def sortI (l : List Int) : List Int := l.mergeSort fun x y => decide (x ≤ y)
theorem sortI_len (l : List Int) : (sortI l).length = l.length := by simp [sortI]
theorem k33 (l : List Int) (e : TypeId) (h0 : 0 < l.length) (hl : l.length ≤ 100000) : CallsM Tryd.prog 33 [.own 0] [(0, .row e 1 (encI l))] 1 (.tup []) [(0, .row e 1 (encI (sortI l)))] 1 := by
  intro w X ι ρ vs hml hvl hvr
  obtain ⟨g, cap, cur, h1, h3, h4, h5, h6, h7, h8, h9⟩ := own_ints hml h0
  obtain ⟨x, rfl⟩ : ∃ x, vs = #[x] := by
    have : vs.size = 1 := hvl
    exact ⟨vs[0], by apply Array.ext (by simpa using this); intro i h1 h2; simp at h2; subst h2; rfl⟩
  have hx := hvr 0 (by simp)
  have hx1 : x = ρ 0 := by
    simp only [List.getD_cons_zero] at hx
    have e : (#[x] : Array Value).getD 0 undef = x := rfl
    rw [e] at hx
    cases hx; rfl
  subst hx1
  rw [h1]
  refine (Any.slices_Sort_int Tryd.lays189 g 0 cap l w (holds_ints h3 h4 h6 h7) h8 (by omega)).mono ?_
  rintro en w' ⟨rfl, n, os, rfl⟩
  exact ⟨_, ι, ρ, rfl, ml_put hml h1 h3 h4 h5 h6 h8 (sortI_len l) n os, .tup _ _ _ rfl (fun i hi => by simp at hi), Nat.le_refl _, fun p _ => ⟨fun _ => rfl, fun _ => rfl⟩⟩
theorem k34 (l : List Int) (e : TypeId) (h0 : 0 < l.length) (hl : l.length ≤ 100000) : CallsM Tryd.prog 34 [.own 0] [(0, .row e 1 (encI l))] 1 (.sl 1 (encI (Lib.compact l))) [] 1 := by
  intro w X ι ρ vs hml hvl hvr
  obtain ⟨g, cap, cur, h1, h3, h4, h5, h6, h7, h8, h9⟩ := own_ints hml h0
  obtain ⟨x, rfl⟩ : ∃ x, vs = #[x] := by
    have : vs.size = 1 := hvl
    exact ⟨vs[0], by apply Array.ext (by simpa using this); intro i h1 h2; simp at h2; subst h2; rfl⟩
  have hx := hvr 0 (by simp)
  have hx1 : x = ρ 0 := by
    simp only [List.getD_cons_zero] at hx
    have e : (#[x] : Array Value).getD 0 undef = x := rfl
    rw [e] at hx
    cases hx; rfl
  subst hx1
  rw [h1]
  refine (Any.slices_Compact_int Tryd.lays220 g 0 cap l w (holds_ints h3 h4 h6 h7) (by omega) h4).mono ?_
  rintro en w' ⟨rfl, n, rfl⟩
  have hcl : (Lib.compact l).length ≤ l.length := by
    unfold Lib.compact Lib.compactUpTo
    rw [List.length_map]
    exact Nat.le_trans (List.length_filter_le _ _) (by simp)
  have hlen : (Lib.compact l ++ List.replicate (l.length - (Lib.compact l).length) 0).length = l.length := by simp; omega
  have hp := ml_put hml h1 h3 h4 h5 h6 h8 hlen n #[]
  rw [grow_empty] at hp
  have hH := holds_putRow (Value.int .i64) (Sort.ahead w n) g 0 l.toArray (Lib.compact l ++ List.replicate (l.length - (Lib.compact l).length) 0).toArray (holds_ints h3 h4 h6 h7) (by simp; omega)
  refine ⟨_, ι, ρ, rfl, ⟨hp.os, hp.tape, hp.output, hp.size, hp.old, fun p hq => (by cases hq), fun p hq => (by cases hq), fun p hq => (by cases hq), fun p hq => (by cases hq), hp.xlt, fun p hq => (by cases hq)⟩, ?_, Nat.le_refl _, fun p _ => ⟨fun _ => rfl, fun _ => rfl⟩⟩
  refine .sl _ _ _ g 0 _ cap (fun i j => .int .i64 ((Lib.compact l).getD i 0)) (by rw [encI_length]) (by omega) h5 (fun i hi => ?_) (fun i j hi hj => ?_) (fun i j hi hj => ?_) (fun i j hi hj => ?_) <;> rw [encI_length] at hi
  · rw [encI_getD _ _ hi]; rfl
  · obtain rfl : j = 0 := by omega
    rw [encI_getD _ _ hi]; rfl
  · obtain rfl : j = 0 := by omega
    have := (hH i (by simp; omega)).1
    refine ⟨?_, fun hO => ?_⟩
    · rw [Nat.mul_one, Nat.add_zero]
      rw [this]
      simp [List.getD, hi, List.getElem?_append_left hi]
    · rcases hO with hX | ⟨p, hp, -⟩
      · exact h9 hX
      · cases hp
  · obtain rfl : j = 0 := by omega
    rw [encI_getD _ _ hi]; exact .int ..
/-! #### sorted, without what stands twice -/
theorem mem_compact {l : List Int} {x : Int} : x ∈ Lib.compact l ↔ x ∈ l := by
  unfold Lib.compact Lib.compactUpTo
  rw [List.mem_map]
  constructor
  · rintro ⟨j, hj, rfl⟩
    rw [List.mem_filter, List.mem_range] at hj
    have : j < l.length := by simpa using hj.1
    simp [this]
  · intro hx
    obtain ⟨i, hi, rfl⟩ := List.getElem_of_mem hx
    have : ∀ n, ∀ i, i < n → ∀ hi : i < l.length, ∃ j, j ∈ (List.range l.length).filter (Lib.keeps l.toArray) ∧ l.toArray[j]! = l[i] := by
      intro n
      induction n with
      | zero => intro i hi; omega
      | succ n ih =>
        intro i hi hl
        by_cases hk : Lib.keeps l.toArray i = true
        · exact ⟨i, List.mem_filter.2 ⟨List.mem_range.2 (by simpa using hl), hk⟩, by simp [hl]⟩
        · have h0 : i ≠ 0 := fun e => hk (by subst e; simp [Lib.keeps])
          have he : l.toArray[i]! = l.toArray[i - 1]! := by
            unfold Lib.keeps at hk
            simp at hk
            first | exact hk.2 | exact (hk h0) | (simp_all; done)
          obtain ⟨j, hj, hj2⟩ := ih (i - 1) (by omega) (by omega)
          refine ⟨j, hj, hj2.trans ?_⟩
          have e1 : l.toArray[i]! = l[i] := by simp [hl]
          have e2 : l.toArray[i - 1]! = l[i - 1] := by simp [show i - 1 < l.length by omega]
          rw [← e1, he, e2]
    obtain ⟨j, hj, hj2⟩ := this (i + 1) i (by omega) hi
    exact ⟨j, hj, hj2⟩
theorem pw_uniq : ∀ {a b : List Int}, pwI a → pwI b → (∀ x, x ∈ a ↔ x ∈ b) → a = b
  | [], [], _, _, _ => rfl
  | [], y :: b, _, _, h => by have := (h y).2 List.mem_cons_self; cases this
  | x :: a, [], _, _, h => by have := (h x).1 List.mem_cons_self; cases this
  | x :: a, y :: b, ha, hb, h => by
    unfold pwI at ha hb
    rw [List.pairwise_cons] at ha hb
    have e : x = y := by
      rcases List.mem_cons.1 ((h x).1 List.mem_cons_self) with e | h1
      · exact e
      · rcases List.mem_cons.1 ((h y).2 List.mem_cons_self) with e | h2
        · exact e.symm
        · have := hb.1 x h1; have := ha.1 y h2; omega
    subst e
    rw [pw_uniq ha.2 hb.2 fun z => ?_]
    constructor
    · intro hz
      rcases List.mem_cons.1 ((h z).1 (List.mem_cons_of_mem _ hz)) with e | h1
      · have := ha.1 z hz; omega
      · exact h1
    · intro hz
      rcases List.mem_cons.1 ((h z).2 (List.mem_cons_of_mem _ hz)) with e | h1
      · have := hb.1 z hz; omega
      · exact h1
theorem sortI_le (l : List Int) : (sortI l).Pairwise (· ≤ ·) := by
  have := List.pairwise_mergeSort (le := fun x y : Int => decide (x ≤ y)) (fun a b c => by simp; omega) (fun a b => by simp; omega) l
  exact this.imp fun h => of_decide_eq_true h
theorem compact_pw {l : List Int} (h : l.Pairwise (· ≤ ·)) : pwI (Lib.compact l) := by
  unfold pwI Lib.compact Lib.compactUpTo
  rw [List.pairwise_map, List.pairwise_filter]
  refine List.Pairwise.imp_of_mem ?_ List.pairwise_lt_range
  intro a b ha hb hab _ hk
  have hb' : b < l.length := by simpa using hb
  have hab2 : a ≤ b - 1 := by omega
  have hle : l.toArray[a]! ≤ l.toArray[b - 1]! := by
    rw [List.pairwise_iff_getElem] at h
    have e1 : l.toArray[a]! = l[a] := by simp [show a < l.length by omega]
    have e2 : l.toArray[b - 1]! = l[b - 1] := by simp [show b - 1 < l.length by omega]
    rw [e1, e2]
    by_cases e : a = b - 1
    · subst e; exact Int.le_refl _
    · exact h a (b - 1) _ _ (by omega)
  have hle2 : l.toArray[b - 1]! ≤ l.toArray[b]! := by
    rw [List.pairwise_iff_getElem] at h
    have e1 : l.toArray[b]! = l[b] := by simp [hb']
    have e2 : l.toArray[b - 1]! = l[b - 1] := by simp [show b - 1 < l.length by omega]
    rw [e1, e2]
    exact h (b - 1) b _ _ (by omega)
  have hne : l.toArray[b]! ≠ l.toArray[b - 1]! := by
    unfold Lib.keeps at hk
    simp at hk
    first | exact hk.resolve_left (by omega) | (simp_all; omega)
  omega
theorem cs_ins {l : List Int} (h : pwI l) (n : Int) : Lib.compact (sortI (l ++ [n])) = insI n l := by
  refine pw_uniq (compact_pw (sortI_le _)) (pwI_ins h) fun x => ?_
  rw [mem_compact, mem_insI]
  unfold sortI
  rw [List.mem_mergeSort, List.mem_append, List.mem_singleton]
  exact or_comm
end Go.Proofs.YtaaongcfeldcoaaDoor

namespace Go.Proofs.YtaaongcfeldcoaaDoor
open Go.RowKit
set_option linter.unusedVariables false
set_option linter.unusedSimpArgs false
theorem encI_one (a : List Int) (x : Int) : encI a ++ (List.replicate 1 [V.int .i64 0]).set 0 [V.int .i64 x] = encI (a ++ [x]) := by simp [encI]
def refV (h : Hr) (n : Int) : List V :=
  if validH h && isInB n 0 11 then
    (if (bestH (withH h n)).found then [.nsl, .bool false, .int .i64 0] else [.sl 4 (encS (bestH (withH h n)).proof), .bool true, .int .i64 0])
  else [.nsl, .bool false, .int .i64 250]
theorem ref_no {h : Hr} {n : Int} (hx : validH h = false ∨ isInB n 0 11 = false) : refV h n = [.nsl, .bool false, .int .i64 250] := by
  unfold refV
  rcases hx with e | e <;> rw [e] <;> simp
theorem ref_f {h : Hr} {n : Int} (h1 : validH h = true) (h2 : isInB n 0 11 = true) (hf : (bestH (withH h n)).found = true) : refV h n = [.nsl, .bool false, .int .i64 0] := by unfold refV; rw [h1, h2, hf]; rfl
theorem ref_t {h : Hr} {n : Int} (h1 : validH h = true) (h2 : isInB n 0 11 = true) (hf : (bestH (withH h n)).found = false) : refV h n = [.sl 4 (encS (bestH (withH h n)).proof), .bool true, .int .i64 0] := by unfold refV; rw [h1, h2, hf]; rfl
theorem valid_pw {h : Hr} (hv : validH h = true) : pwI h.must := by
  simp only [validH, Bool.and_eq_true] at hv
  exact pwI_iff.1 hv.2.2.2.2.2.2.2.2.2
end Go.Proofs.YtaaongcfeldcoaaDoor

namespace Go.Proofs.YtaaongcfeldcoaaDoor
open Go.RowKit
set_option linter.unusedVariables false
set_option linter.unusedSimpArgs false
def choW (h : Hr) (s : Int) : Int := pickW s ((2 ^ h.offers.length : Nat) : Int)
theorem pick_pow {s : Int} (hs : okI s) {n : Nat} (hn : n ≤ 12) : ∃ k : Nat, pickW s ((2 ^ n : Nat) : Int) = k ∧ k < 2 ^ n := by
  have hp := Nat.two_pow_pos n
  have : 2 ^ n ≤ 2 ^ 12 := Nat.pow_le_pow_right (by omega) hn
  unfold okI at hs
  unfold pickW
  split
  · have e1 : IntKind.i64.wrap (s + 1) = s + 1 := w64 (by omega)
    have e2 : IntKind.i64.wrap (0 - (s + 1)) = 0 - (s + 1) := w64 (by omega)
    rw [e1, e2, Int.tmod_eq_emod_of_nonneg (by omega)]
    have h1 := Int.emod_nonneg (0 - (s + 1)) (b := ((2 ^ n : Nat) : Int)) (by omega)
    have h2 := Int.emod_lt_of_pos (0 - (s + 1)) (b := ((2 ^ n : Nat) : Int)) (by omega)
    exact ⟨_, (Int.toNat_of_nonneg h1).symm, by omega⟩
  · rw [Int.tmod_eq_emod_of_nonneg (by omega)]
    have h1 := Int.emod_nonneg s (b := ((2 ^ n : Nat) : Int)) (by omega)
    have h2 := Int.emod_lt_of_pos s (b := ((2 ^ n : Nat) : Int)) (by omega)
    exact ⟨_, (Int.toNat_of_nonneg h1).symm, by omega⟩
theorem cho_lt {h : Hr} (hol : h.offers.length ≤ 12) {s : Int} (hs : okI s) : ∃ k : Nat, choW h s = k ∧ k < 2 ^ h.offers.length := pick_pow hs hol
theorem cho_ok {h : Hr} (hol : h.offers.length ≤ 12) {s : Int} (hs : okI s) : choiceH h (choW h s) = true := by
  obtain ⟨k, hk, hl⟩ := cho_lt hol hs
  rw [hk]; exact choiceH_of hl
/-- With a promise more, step by step. -/
def wthT (l : List Int) (n : Int) : Nat → Bool × List Int
  | 0 => (false, [])
  | i + 1 =>
    let p := wthT l n i
    let p1 := if !p.1 && decide (n ≤ l.getD i 0) then (true, p.2 ++ [n]) else p
    if l.getD i 0 = n then p1 else (p1.1, p1.2 ++ [l.getD i 0])
theorem wthT_len (l : List Int) (n : Int) : ∀ i, (wthT l n i).2.length ≤ 2 * i
  | 0 => by simp [wthT]
  | i + 1 => by
    have := wthT_len l n i
    simp only [wthT]
    split <;> split <;> (try simp only [List.length_append, List.length_singleton]) <;> omega
def wthE (l : List Int) (n : Int) : List Int := if (wthT l n l.length).1 then (wthT l n l.length).2 else (wthT l n l.length).2 ++ [n]
theorem insI_snoc_lt {n x : Int} : ∀ {l : List Int}, pwI (l ++ [x]) → n < x → (∃ y ∈ l, n ≤ y) → insI n (l ++ [x]) = insI n l ++ [x]
  | [], _, _, h => by obtain ⟨y, hy, -⟩ := h; cases hy
  | a :: l, hp, hx, h => by
    unfold pwI at hp
    rw [List.cons_append, List.pairwise_cons] at hp
    simp only [List.cons_append, insI]
    by_cases h1 : n ≤ a
    · rw [if_pos h1, if_pos h1]
      by_cases h2 : a = n
      · rw [if_pos h2, if_pos h2]; rfl
      · rw [if_neg h2, if_neg h2]; rfl
    · rw [if_neg h1, if_neg h1, insI_snoc_lt hp.2 hx]
      · rfl
      · obtain ⟨y, hy, hy2⟩ := h
        rcases List.mem_cons.1 hy with rfl | hy
        · exact absurd hy2 h1
        · exact ⟨y, hy, hy2⟩
theorem insI_all {n : Int} : ∀ {l : List Int}, (∀ y ∈ l, y < n) → insI n l = l ++ [n]
  | [], _ => rfl
  | a :: l, h => by
    simp only [insI]
    have := h a List.mem_cons_self
    rw [if_neg (by omega), insI_all fun y hy => h y (List.mem_cons_of_mem _ hy)]; rfl
theorem insI_snoc_ge {n x : Int} : ∀ {l : List Int}, (∀ y ∈ l, y < n) → n ≤ x → insI n (l ++ [x]) = if x = n then l ++ [n] else l ++ [n, x]
  | [], _, h => by
    simp only [List.nil_append, insI]
    rw [if_pos h]
    split
    · rename_i e; rw [e]
    · rfl
  | a :: l, h, hx => by
    have := h a List.mem_cons_self
    simp only [List.cons_append, insI]
    rw [if_neg (by omega), insI_snoc_ge (fun y hy => h y (List.mem_cons_of_mem _ hy)) hx]
    split <;> rfl
theorem pwI_take {l : List Int} (h : pwI l) (i : Nat) : pwI (l.take i) := List.Pairwise.sublist (List.take_sublist _ _) h
theorem take_snocI {l : List Int} {i : Nat} (hi : i < l.length) : l.take (i + 1) = l.take i ++ [l.getD i 0] := by
  rw [List.take_add_one, List.getElem?_eq_getElem hi]; simp [List.getD, hi]
theorem wth_inv {l : List Int} (hp : pwI l) (n : Int) : ∀ i, i ≤ l.length → ((wthT l n i).1 = false → (∀ y ∈ l.take i, y < n) ∧ (wthT l n i).2 = l.take i) ∧ ((wthT l n i).1 = true → (∃ y ∈ l.take i, n ≤ y) ∧ (wthT l n i).2 = insI n (l.take i))
  | 0, _ => by simp [wthT]
  | i + 1, hi => by
    obtain ⟨h1, h2⟩ := wth_inv hp n i (by omega)
    have e := take_snocI (l := l) (i := i) (by omega)
    have hpt := pwI_take hp (i + 1)
    rw [e] at hpt
    cases hb : (wthT l n i).1 with
    | false =>
      obtain ⟨k1, k2⟩ := h1 hb
      by_cases hx : n ≤ l.getD i 0
      · have hw : wthT l n (i + 1) = if l.getD i 0 = n then (true, l.take i ++ [n]) else (true, l.take i ++ [n] ++ [l.getD i 0]) := by
          simp only [wthT, hb, k2, Bool.not_false, Bool.true_and, decide_eq_true hx, if_true]
        have hfst : (wthT l n (i + 1)).1 = true := by rw [hw]; split <;> rfl
        refine ⟨fun h => (by rw [hfst] at h; cases h), fun _ => ⟨⟨l.getD i 0, by rw [e]; simp, hx⟩, ?_⟩⟩
        rw [e, insI_snoc_ge k1 hx, hw]
        split <;> simp
      · have hw : wthT l n (i + 1) = (false, l.take i ++ [l.getD i 0]) := by
          simp only [wthT, hb, Bool.not_false, Bool.true_and, decide_eq_false hx, Bool.false_eq_true, if_false]
          rw [if_neg (by omega), k2]
        refine ⟨fun _ => ⟨fun y hy => ?_, by rw [hw, e]⟩, fun h => by rw [hw] at h; cases h⟩
        rw [e] at hy
        rcases List.mem_append.1 hy with hy | hy
        · exact k1 y hy
        · rw [List.mem_singleton] at hy; omega
    | true =>
      obtain ⟨⟨y, hy, hy2⟩, k2⟩ := h2 hb
      have hlt : n < l.getD i 0 := by
        unfold pwI at hpt
        rw [List.pairwise_append] at hpt
        have := hpt.2.2 y hy (l.getD i 0) (List.mem_singleton.2 rfl)
        omega
      have hw : wthT l n (i + 1) = (true, (wthT l n i).2 ++ [l.getD i 0]) := by
        simp only [wthT, hb, Bool.not_true, Bool.false_and, Bool.false_eq_true, if_false]
        rw [if_neg (by omega)]
      refine ⟨fun h => (by rw [hw] at h; cases h), fun _ => ⟨⟨y, by rw [e]; exact List.mem_append_left _ hy, hy2⟩, ?_⟩⟩
      rw [hw, e, k2, insI_snoc_lt hpt hlt ⟨y, hy, hy2⟩]
theorem wthE_ins {l : List Int} (hp : pwI l) (n : Int) : wthE l n = insI n l := by
  obtain ⟨h1, h2⟩ := wth_inv hp n l.length (Nat.le_refl _)
  rw [List.take_length] at h1 h2
  unfold wthE
  cases hb : (wthT l n l.length).1 with
  | false => obtain ⟨k1, k2⟩ := h1 hb; rw [k2, insI_all k1]; rfl
  | true => exact (h2 hb).2
theorem encI_app1 (a : List Int) (x : Int) : encI a ++ [[V.int .i64 x]] = encI (a ++ [x]) := by simp [encI]
theorem wth_tt {l : List Int} {n : Int} {i : Nat} (h1 : (wthT l n i).1 = false ∧ n ≤ l.getD i 0) (h2 : ¬ l.getD i 0 = n) : wthT l n (i + 1) = (true, (wthT l n i).2 ++ [n] ++ [l.getD i 0]) := by
  simp only [wthT, h1.1, Bool.not_false, Bool.true_and, decide_eq_true h1.2, if_true]; rw [if_neg h2]
theorem wth_tf {l : List Int} {n : Int} {i : Nat} (h1 : (wthT l n i).1 = false ∧ n ≤ l.getD i 0) (h2 : l.getD i 0 = n) : wthT l n (i + 1) = (true, (wthT l n i).2 ++ [n]) := by
  simp only [wthT, h1.1, Bool.not_false, Bool.true_and, decide_eq_true h1.2, if_true]; rw [if_pos h2]
theorem wth_p1 {l : List Int} {n : Int} {i : Nat} (h1 : (wthT l n i).1 = true ∨ ¬ n ≤ l.getD i 0) : (if (!(wthT l n i).1 && decide (n ≤ l.getD i 0)) = true then (true, (wthT l n i).2 ++ [n]) else wthT l n i) = wthT l n i := by
  rw [if_neg]
  rcases h1 with h | h
  · rw [h]; simp
  · rw [decide_eq_false h]; simp
theorem wth_ft {l : List Int} {n : Int} {i : Nat} (h1 : (wthT l n i).1 = true ∨ ¬ n ≤ l.getD i 0) (h2 : ¬ l.getD i 0 = n) : wthT l n (i + 1) = ((wthT l n i).1, (wthT l n i).2 ++ [l.getD i 0]) := by
  simp only [wthT, wth_p1 h1]; rw [if_neg h2]
theorem wth_ff {l : List Int} {n : Int} {i : Nat} (h1 : (wthT l n i).1 = true ∨ ¬ n ≤ l.getD i 0) (h2 : l.getD i 0 = n) : wthT l n (i + 1) = wthT l n i := by
  simp only [wthT, wth_p1 h1]; rw [if_pos h2]
theorem wthE_f {l : List Int} {n : Int} (h : (wthT l n l.length).1 = false) : wthE l n = (wthT l n l.length).2 ++ [n] := by unfold wthE; rw [h]; rfl
theorem wthE_t {l : List Int} {n : Int} (h : (wthT l n l.length).1 = true) : wthE l n = (wthT l n l.length).2 := by unfold wthE; rw [h]; rfl
/-- The sum of values, as the statement reckons it. -/
def gnT (h : Hr) (s : Int) : Nat → Int
  | 0 => 0
  | n + 1 => if (shrW .i64 s n).tmod 2 = 1 then IntKind.i64.wrap (gnT h s n + (h.offers.getD n of0).vl) else gnT h s n
theorem gnT_t {h : Hr} {s : Int} {n : Nat} (hb : (shrW .i64 s n).tmod 2 = 1) : gnT h s (n + 1) = IntKind.i64.wrap (gnT h s n + (h.offers.getD n of0).vl) := by simp only [gnT]; rw [if_pos hb]
theorem gnT_f {h : Hr} {s : Int} {n : Nat} (hb : ¬ (shrW .i64 s n).tmod 2 = 1) : gnT h s (n + 1) = gnT h s n := by simp only [gnT]; rw [if_neg hb]
theorem gnT_sm {h : Hr} (hV : VH h) {s : Nat} (hs : s < 65536) : ∀ n, n ≤ h.offers.length → gnT h s n = smC h (·.vl) s n ∧ 0 ≤ smC h (·.vl) s n ∧ smC h (·.vl) s n ≤ (n : Int) * 1000000
  | 0, _ => by simp [gnT, smC, smT]
  | n + 1, hn => by
    obtain ⟨h1, h2, h3⟩ := gnT_sm hV hs n (by omega)
    have hol := hV.ol
    have ho := hV.of n (by omega)
    have e : smC h (·.vl) s (n + 1) = smC h (·.vl) s n + if tkn s n then (h.offers.getD n of0).vl else 0 := rfl
    have hr := rem_bit (s := s) (n := n) (by omega)
    have hc := cBit_nat hs (show n < 64 by omega)
    have ht : tkn s n = s.testBit n := hc
    rw [e, ht]
    cases hb : s.testBit n with
    | true =>
      rw [hb] at hr
      rw [gnT_t (by rw [hr]; rfl), h1, w64 (by omega)]
      simp only [if_true]
      refine ⟨trivial, by omega, by omega⟩
    | false =>
      rw [hb] at hr
      rw [gnT_f (by rw [hr]; simp), h1]
      simp only [Bool.false_eq_true, if_false]
      refine ⟨by omega, by omega, by omega⟩
theorem gnT_gain {h : Hr} (hV : VH h) {s : Nat} (hs : s < 2 ^ h.offers.length) : gnT h s h.offers.length = gainC h s := by
  have hp : 2 ^ h.offers.length ≤ 2 ^ 12 := Nat.pow_le_pow_right (by omega) hV.ol
  exact (gnT_sm hV (by omega) _ (Nat.le_refl _)).1
theorem agEq3 (a b : T3) : agEq [V.int .i64 a.p, V.int .i64 a.q, V.int .i64 a.r] [V.int .i64 b.p, V.int .i64 b.q, V.int .i64 b.r] = decide (a.p = b.p ∧ a.q = b.q ∧ a.r = b.r) := by
  unfold agEq
  by_cases h : a.p = b.p ∧ a.q = b.q ∧ a.r = b.r
  · simp [h]
  · simp [h]
theorem t3_ext {a b : T3} : a = b ↔ a.p = b.p ∧ a.q = b.q ∧ a.r = b.r := by
  cases a; cases b; simp
instance : DecidableEq T3 := fun a b => decidable_of_iff _ (t3_ext (a := a) (b := b)).symm
end Go.Proofs.YtaaongcfeldcoaaDoor

namespace Go.Proofs.YtaaongcfeldcoaaDoor
open Go.RowKit
set_option linter.unusedVariables false
set_option linter.unusedSimpArgs false
def exH (must : List Int) : Hr := ⟨[⟨100, 130⟩, ⟨200, 260⟩], [⟨0, 0, 20, 50⟩, ⟨0, 1, 20, 40⟩, ⟨1, 0, 30, 60⟩, ⟨2, 1, 45, 70⟩], [⟨0, 2⟩], must⟩
theorem ev0 : validH (exH []) = true := by decide +kernel
theorem ev1 : validH (exH [0]) = true := by decide +kernel
theorem ev2 : validH (exH [0, 2]) = true := by decide +kernel
theorem ex_len (m : List Int) (hm : m.length ≤ maxLen) : (exH m).rooms.length ≤ maxLen ∧ (exH m).offers.length ≤ maxLen ∧ (exH m).apart.length ≤ maxLen ∧ (exH m).must.length ≤ maxLen := by
  refine ⟨?_, ?_, ?_, hm⟩ <;> (show (_ : Nat) ≤ 2 ^ 63 - 1; simp [exH])
theorem ex_best0 : (bestH (exH [])).found = true ∧ (bestH (exH [])).set = 12 ∧ (bestH (exH [])).gain = 130 := by decide +kernel
theorem ex_best1 : (bestH (exH [0])).found = true ∧ (bestH (exH [0])).set = 9 ∧ (bestH (exH [0])).gain = 120 := by decide +kernel
theorem ex_w1 : (bestH (withH (exH [0]) 1)).found = true := by decide +kernel
theorem ex_w2 : (bestH (withH (exH [0, 2]) 1)).found = false := by decide +kernel
theorem ex_keep : keepsH (exH []) 12 = true ∧ keepsH (exH []) 10 = false ∧ keepsH (exH []) 3 = false ∧ keepsH (exH []) 16 = false := by decide +kernel
theorem ex_rows : (progH (exH [])).rows.length = 4 ∧ ((progH (exH [])).rows.getD 3 rw0).kind = 3 ∧ ((progH (exH [])).rows.getD 3 rw0).pl = 200 ∧ (progH (exH [])).vars = 4 := by decide +kernel
theorem ex_plc : plcW (exH []) 12 2 = [⟨100, 130, 2⟩, ⟨200, 245, 3⟩] := by decide +kernel
theorem ex_kpt : keptW (exH []) 12 12 = [1, 2] := by decide +kernel
theorem ex_cho : choiceH (exH []) 12 = true := by decide +kernel
theorem ex_p12 : plcV (exH []) 12 = [.sl 3 (encT [⟨100, 130, 2⟩, ⟨200, 245, 3⟩]), .int .i64 0] := by
  unfold plcV; rw [ex_keep.1]; show [V.sl 3 (encT (plcW (exH []) 12 2)), V.int .i64 0] = _; rw [ex_plc]
theorem ex_p10 : plcV (exH []) 10 = [.nsl, .int .i64 250] := by unfold plcV; rw [ex_keep.2.1]; rfl
theorem ex_kv : keptV (exH []) 12 = [.sl 1 (encI [1, 2]), .int .i64 0] := by unfold keptV; rw [ev0, ex_cho, ex_kpt]; rfl
theorem ex_r1 : refV (exH [0]) 1 = [.nsl, .bool false, .int .i64 0] := ref_f ev1 (by decide) ex_w1
theorem ex_r2 : refV (exH [0, 2]) 1 = [.sl 4 (encS (bestH (withH (exH [0, 2]) 1)).proof), .bool true, .int .i64 0] := ref_t ev2 (by decide) ex_w2
end Go.Proofs.YtaaongcfeldcoaaDoor

namespace Go.Proofs.YtaaongcfeldcoaaDoor
open Go.RowKit
set_option linter.unusedVariables false
set_option linter.unusedSimpArgs false
/-! #### rooms -/
def mkR (x : List P2) (a0 : Int) : Nat → Int × List Sp
  | 0 => (a0, [])
  | n + 1 =>
    let f := IntKind.i64.wrap ((mkR x a0 n).1 + pickW (x.getD n p20).a 30)
    let t := IntKind.i64.wrap (IntKind.i64.wrap (f + 10) + pickW (x.getD n p20).b 60)
    (t, (mkR x a0 n).2 ++ [⟨f, t⟩])
theorem mkR_len (x : List P2) (a0 : Int) : ∀ n, (mkR x a0 n).2.length = n
  | 0 => rfl
  | n + 1 => by simp [mkR, mkR_len x a0 n]
def okP2 (p : P2) : Prop := okI p.a ∧ okI p.b
theorem okP2_getD {x : List P2} (hx : ∀ p ∈ x, okP2 p) (n : Nat) : okP2 (x.getD n p20) := by
  by_cases h : n < x.length
  · exact hx _ (getD_mem h)
  · have : x.getD n p20 = p20 := by simp [List.getD, List.getElem?_eq_none (Nat.le_of_not_lt h)]
    rw [this]; unfold okP2 okI p20; simp
theorem mkR_at {x : List P2} (hx : ∀ p ∈ x, okP2 p) {a0 : Int} (h0 : 0 ≤ a0 ∧ a0 ≤ 3599) : ∀ n, n ≤ 4 → (0 ≤ (mkR x a0 n).1 ∧ (mkR x a0 n).1 ≤ 3599 + (n : Int) * 100) ∧ (∀ i, i < n → spOk (mkR x a0 n).2 i = true) ∧ (0 < n → ((mkR x a0 n).2.getD (n - 1) sp0).to = (mkR x a0 n).1)
  | 0, _ => ⟨by simp [mkR]; omega, fun i hi => by omega, fun h => by omega⟩
  | n + 1, hn => by
    obtain ⟨⟨h1, h2⟩, h3, h4⟩ := mkR_at hx h0 n (by omega)
    have hl := mkR_len x a0 n
    obtain ⟨o1, o2⟩ := okP2_getD hx n
    have p1 := pickW_range (x.getD n p20).a (n := 30) (by omega) (by omega) o1
    have p2 := pickW_range (x.getD n p20).b (n := 60) (by omega) (by omega) o2
    have w1 : IntKind.i64.wrap ((mkR x a0 n).1 + pickW (x.getD n p20).a 30) = (mkR x a0 n).1 + pickW (x.getD n p20).a 30 := w64 (by omega)
    have w2 : IntKind.i64.wrap ((mkR x a0 n).1 + pickW (x.getD n p20).a 30 + 10) = (mkR x a0 n).1 + pickW (x.getD n p20).a 30 + 10 := w64 (by omega)
    have w3 : IntKind.i64.wrap ((mkR x a0 n).1 + pickW (x.getD n p20).a 30 + 10 + pickW (x.getD n p20).b 60) = (mkR x a0 n).1 + pickW (x.getD n p20).a 30 + 10 + pickW (x.getD n p20).b 60 := w64 (by omega)
    have e : mkR x a0 (n + 1) = ((mkR x a0 n).1 + pickW (x.getD n p20).a 30 + 10 + pickW (x.getD n p20).b 60, (mkR x a0 n).2 ++ [⟨(mkR x a0 n).1 + pickW (x.getD n p20).a 30, (mkR x a0 n).1 + pickW (x.getD n p20).a 30 + 10 + pickW (x.getD n p20).b 60⟩]) := by
      simp only [mkR, w1, w2, w3]
    rw [e]
    simp only
    have gl : ∀ (s : Sp) i, i < n → ((mkR x a0 n).2 ++ [s]).getD i sp0 = (mkR x a0 n).2.getD i sp0 := fun s i hi => by
      simp [List.getD, List.getElem?_append_left (show i < (mkR x a0 n).2.length by omega)]
    have ge : ∀ (s : Sp), ((mkR x a0 n).2 ++ [s]).getD n sp0 = s := fun s => by
      simp [List.getD, List.getElem?_append_right (show (mkR x a0 n).2.length ≤ n by omega), hl]
    refine ⟨⟨by omega, by rw [show ((n + 1 : Nat) : Int) * 100 = n * 100 + 100 by omega]; omega⟩, fun i hi => ?_, fun _ => by rw [Nat.add_sub_cancel, ge]⟩
    by_cases ei : i = n
    · subst ei
      rw [spOk_iff, ge]
      refine ⟨by simp only; omega, by simp only; omega, by simp only; omega, fun hp => ?_⟩
      rw [gl _ _ (by omega), h4 hp]
      simp only; omega
    · have := h3 i (by omega)
      rw [spOk_iff] at this ⊢
      rw [gl _ _ (by omega)]
      refine ⟨this.1, this.2.1, this.2.2.1, fun hp => ?_⟩
      rw [gl _ _ (by omega)]
      exact this.2.2.2 hp
/-! #### offers -/
def mkO (n : Nat) (o : Of) : Of := ⟨pickW o.pr 6, pickW o.rm n, IntKind.i64.wrap (5 + pickW o.ln 40), pickW o.vl 100⟩
def okO (o : Of) : Prop := okI o.pr ∧ okI o.rm ∧ okI o.ln ∧ okI o.vl
def posO (o : Of) : List Of → Nat
  | [] => 0
  | a :: l => if ofLt a o then posO o l + 1 else 0
def sameK (a b : Of) : Bool := decide (a.pr = b.pr) && decide (a.rm = b.rm)
def insO (l : List Of) (o : Of) : List Of := if posO o l < l.length ∧ sameK (l.getD (posO o l) of0) o = true then l else l.take (posO o l) ++ o :: l.drop (posO o l)
def offT (n : Nat) (x : List Of) : Nat → List Of
  | 0 => []
  | i + 1 => insO (offT n x i) (mkO n (x.getD i of0))
theorem posO_at {o : Of} : ∀ {l : List Of} {k : Nat}, k ≤ l.length → (∀ j, j < k → ofLt (l.getD j of0) o = true) → (k < l.length → ofLt (l.getD k of0) o = false) → posO o l = k
  | [], k, hk, _, _ => by have : k = 0 := by simpa using hk
                          subst this; rfl
  | a :: l, 0, _, _, h => by
    have := h (by simp)
    simp only [List.getD_cons_zero] at this
    simp [posO, this]
  | a :: l, k + 1, hk, h1, h2 => by
    have h0 := h1 0 (by omega)
    simp only [List.getD_cons_zero] at h0
    simp only [posO, h0, if_true]
    rw [posO_at (l := l) (k := k) (by simpa using hk) (fun j hj => by have := h1 (j + 1) (by omega); simpa using this) (fun hj => by have := h2 (by simpa using hj); simpa using this)]
theorem posO_le (o : Of) : ∀ l : List Of, posO o l ≤ l.length
  | [] => Nat.le_refl _
  | a :: l => by have := posO_le o l; simp only [posO, List.length_cons]; split <;> omega
theorem posO_lt {o : Of} : ∀ {l : List Of} {j : Nat}, j < posO o l → ofLt (l.getD j of0) o = true
  | [], j, h => by simp [posO] at h
  | a :: l, j, h => by
    simp only [posO] at h
    split at h
    · cases j with
      | zero => simpa
      | succ j => have := posO_lt (o := o) (l := l) (j := j) (by omega); simpa using this
    · omega
theorem posO_ge {o : Of} : ∀ {l : List Of}, posO o l < l.length → ofLt (l.getD (posO o l) of0) o = false
  | [], h => by simp [posO] at h
  | a :: l, h => by
    simp only [posO] at h ⊢
    split
    · rename_i ha
      rw [if_pos ha] at h
      have := posO_ge (l := l) (by simpa using h)
      simpa using this
    · rename_i ha
      simpa using ha
theorem insO_len (l : List Of) (o : Of) : l.length ≤ (insO l o).length ∧ (insO l o).length ≤ l.length + 1 := by
  have := posO_le o l
  unfold insO
  split
  · omega
  · simp; omega
theorem offT_len (n : Nat) (x : List Of) : ∀ i, (offT n x i).length ≤ i
  | 0 => by simp [offT]
  | i + 1 => by have := offT_len n x i; have := (insO_len (offT n x i) (mkO n (x.getD i of0))).2; simp only [offT]; omega
theorem mem_insO {l : List Of} {o x : Of} (h : x ∈ insO l o) : x = o ∨ x ∈ l := by
  unfold insO at h
  split at h
  · exact .inr h
  · rcases List.mem_append.1 h with h | h
    · exact .inr (List.mem_of_mem_take h)
    · rcases List.mem_cons.1 h with h | h
      · exact .inl h
      · exact .inr (List.mem_of_mem_drop h)
def pwO (l : List Of) : Prop := l.Pairwise fun a b => ofLt a b = true
theorem pwO_iff {l : List Of} : ascB of0 ofLt l = true ↔ pwO l := by
  unfold pwO
  rw [List.pairwise_iff_getElem]
  constructor
  · intro h i j hi hj hij
    have := asc_lt ofLt_tr h hij hj
    simpa [List.getD, hi, hj] using this
  · intro h
    rw [ascB_iff]
    intro i h0 hi
    have := h (i - 1) i (by omega) hi (by omega)
    simpa [List.getD, hi, show i - 1 < l.length by omega] using this
theorem pwO_ins {l : List Of} {o : Of} (h : pwO l) : pwO (insO l o) := by
  unfold insO
  split
  · exact h
  · rename_i hn
    have hle := posO_le o l
    unfold pwO at h ⊢
    have ht : (l.take (posO o l)).Pairwise fun a b => ofLt a b = true := List.Pairwise.sublist (List.take_sublist _ _) h
    have hd : (l.drop (posO o l)).Pairwise fun a b => ofLt a b = true := List.Pairwise.sublist (List.drop_sublist _ _) h
    have htd : ∀ a ∈ l.take (posO o l), ofLt a o = true := fun a ha => by
      obtain ⟨j, hj, e⟩ := mem_getDI (d := of0) ha
      have hj' : j < posO o l := by rw [List.length_take] at hj; omega
      rw [← e, show (l.take (posO o l)).getD j of0 = l.getD j of0 by simp [List.getD, List.getElem?_take, hj']]
      exact posO_lt hj'
    have hod : ∀ b ∈ l.drop (posO o l), ofLt o b = true := fun b hb => by
      obtain ⟨j, hj, e⟩ := mem_getDI (d := of0) hb
      have hlen : posO o l < l.length := by rw [List.length_drop] at hj; omega
      have h1 := posO_ge hlen
      have h2 : ¬ sameK (l.getD (posO o l) of0) o = true := fun hs => hn ⟨hlen, hs⟩
      have h3 : ofLt o (l.getD (posO o l) of0) = true := by
        rw [ofLt_iff]
        rw [Bool.eq_false_iff, ne_eq, ofLt_iff] at h1
        simp only [sameK, Bool.and_eq_true, decide_eq_true_eq] at h2
        omega
      have e2 : b = l.getD (posO o l + j) of0 := by rw [← e]; simp [List.getD, List.getElem?_drop]
      rw [e2]
      by_cases hj0 : j = 0
      · subst hj0; exact h3
      · rw [List.length_drop] at hj
        exact ofLt_tr _ _ _ h3 (asc_lt ofLt_tr (pwO_iff.2 h) (show posO o l < posO o l + j by omega) (by omega))
    rw [List.pairwise_append]
    refine ⟨ht, List.pairwise_cons.2 ⟨hod, hd⟩, fun a ha b hb => ?_⟩
    rcases List.mem_cons.1 hb with rfl | hb
    · exact htd a ha
    · exact ofLt_tr _ _ _ (htd a ha) (hod b hb)
theorem okO_getD {x : List Of} (hx : ∀ p ∈ x, okO p) (n : Nat) : okO (x.getD n of0) := by
  by_cases h : n < x.length
  · exact hx _ (getD_mem h)
  · have : x.getD n of0 = of0 := by simp [List.getD, List.getElem?_eq_none (Nat.le_of_not_lt h)]
    rw [this]; unfold okO okI of0; simp
theorem mkO_ok {o : Of} (h : okO o) {n : Nat} (h0 : 0 < n) (hn : n ≤ 4) : ofOk n (mkO n o) = true ∧ 0 ≤ pickW o.ln 40 ∧ pickW o.ln 40 < 40 := by
  obtain ⟨o1, o2, o3, o4⟩ := h
  have p1 := pickW_range o.pr (n := 6) (by omega) (by omega) o1
  have p2 := pickW_range o.rm (n := (n : Int)) (by omega) (by omega) o2
  have p3 := pickW_range o.ln (n := 40) (by omega) (by omega) o3
  have p4 := pickW_range o.vl (n := 100) (by omega) (by omega) o4
  have w : IntKind.i64.wrap (5 + pickW o.ln 40) = 5 + pickW o.ln 40 := w64 (by omega)
  refine ⟨?_, p3⟩
  rw [ofOk_iff]
  simp only [mkO, w]
  omega
theorem offT_ok {x : List Of} (hx : ∀ p ∈ x, okO p) {n : Nat} (h0 : 0 < n) (hn : n ≤ 4) : ∀ i, pwO (offT n x i) ∧ ∀ o ∈ offT n x i, ofOk n o = true
  | 0 => ⟨List.Pairwise.nil, fun o ho => by simp [offT] at ho⟩
  | i + 1 => by
    obtain ⟨h1, h2⟩ := offT_ok hx h0 hn i
    refine ⟨pwO_ins h1, fun o ho => ?_⟩
    rcases mem_insO ho with rfl | ho
    · exact (mkO_ok (okO_getD hx i) h0 hn).1
    · exact h2 o ho
end Go.Proofs.YtaaongcfeldcoaaDoor

namespace Go.Proofs.YtaaongcfeldcoaaDoor
open Go.RowKit
set_option linter.unusedVariables false
set_option linter.unusedSimpArgs false
theorem pickW_rng (s : Int) {n : Int} (h0 : 0 < n) (hn : n ≤ 100000) (hs : okI s) : 0 ≤ pickW s n ∧ pickW s n < n := by
  unfold okI at hs
  unfold pickW
  split
  · have e1 : IntKind.i64.wrap (s + 1) = s + 1 := w64 (by omega)
    have e2 : IntKind.i64.wrap (0 - (s + 1)) = 0 - (s + 1) := w64 (by omega)
    rw [e1, e2, Int.tmod_eq_emod_of_nonneg (by omega)]
    exact ⟨Int.emod_nonneg _ (by omega), Int.emod_lt_of_pos _ h0⟩
  · rw [Int.tmod_eq_emod_of_nonneg (by omega)]
    exact ⟨Int.emod_nonneg _ (by omega), Int.emod_lt_of_pos _ h0⟩
def bitS (v : Int) (i : Nat) : Bool := decide ((shrW .i64 v i).tmod 2 = 1)
def prs : List P2 := [⟨0, 1⟩, ⟨0, 2⟩, ⟨0, 3⟩, ⟨0, 4⟩, ⟨0, 5⟩, ⟨1, 2⟩, ⟨1, 3⟩, ⟨1, 4⟩, ⟨1, 5⟩, ⟨2, 3⟩, ⟨2, 4⟩, ⟨2, 5⟩, ⟨3, 4⟩, ⟨3, 5⟩, ⟨4, 5⟩]
def apT (v : Int) : Nat → List P2
  | 0 => []
  | i + 1 => if bitS v i && decide (((apT v i).length : Int) < 12) then apT v i ++ [prs.getD i p20] else apT v i
def muT (v : Int) : Nat → List Int
  | 0 => []
  | i + 1 => if bitS v i then muT v i ++ [(i : Int)] else muT v i
theorem apT_t {v : Int} {i : Nat} (h1 : (shrW .i64 v i).tmod 2 = 1) (h2 : ((apT v i).length : Int) < 12) : apT v (i + 1) = apT v i ++ [prs.getD i p20] := by
  simp only [apT]; rw [if_pos]; rw [Bool.and_eq_true]; exact ⟨decide_eq_true h1, decide_eq_true h2⟩
theorem apT_f {v : Int} {i : Nat} (h : ¬ (shrW .i64 v i).tmod 2 = 1 ∨ ¬ ((apT v i).length : Int) < 12) : apT v (i + 1) = apT v i := by
  simp only [apT]; rw [if_neg]; rw [Bool.and_eq_true]
  rintro ⟨h1, h2⟩
  rcases h with h | h
  · exact h (of_decide_eq_true h1)
  · exact h (of_decide_eq_true h2)
theorem muT_t {v : Int} {i : Nat} (h1 : (shrW .i64 v i).tmod 2 = 1) : muT v (i + 1) = muT v i ++ [(i : Int)] := by simp only [muT]; rw [if_pos (show bitS v i = true from decide_eq_true h1)]
theorem muT_f {v : Int} {i : Nat} (h1 : ¬ (shrW .i64 v i).tmod 2 = 1) : muT v (i + 1) = muT v i := by simp only [muT]; rw [if_neg (fun h : bitS v i = true => h1 (of_decide_eq_true h))]
theorem apT_len (v : Int) : ∀ i, (apT v i).length ≤ 12
  | 0 => by simp [apT]
  | i + 1 => by
    have := apT_len v i
    simp only [apT]
    split
    · rename_i h
      rw [Bool.and_eq_true, decide_eq_true_eq] at h
      simp only [List.length_append, List.length_singleton]; omega
    · exact this
theorem muT_len (v : Int) : ∀ i, (muT v i).length ≤ i
  | 0 => by simp [muT]
  | i + 1 => by have := muT_len v i; simp only [muT]; split <;> (try simp only [List.length_append, List.length_singleton]) <;> omega
theorem apT_sub (v : Int) : ∀ i, i ≤ 15 → (apT v i).Sublist (prs.take i)
  | 0, _ => by simp [apT]
  | i + 1, hi => by
    have ih := apT_sub v i (by omega)
    have e : prs.take (i + 1) = prs.take i ++ [prs.getD i p20] := by
      have hl : i < prs.length := by show i < 15; omega
      rw [List.take_add_one, List.getElem?_eq_getElem hl]; simp [List.getD, hl]
    rw [e]
    simp only [apT]
    split
    · exact List.Sublist.append ih (List.Sublist.refl _)
    · exact List.Sublist.trans ih (List.sublist_append_left _ _)
theorem p2Lt_tr (a b c : P2) (h : p2Lt a b = true) (k : p2Lt b c = true) : p2Lt a c = true := by rw [p2Lt_iff] at *; omega
theorem prs_pw : prs.Pairwise fun a b => p2Lt a b = true := by decide
theorem prs_ok : ∀ a ∈ prs, p2Ok a = true := by decide
theorem pw_asc {α : Type} {d : α} {lt : α → α → Bool} {l : List α} (h : l.Pairwise fun a b => lt a b = true) : ascB d lt l = true := by
  rw [List.pairwise_iff_getElem] at h
  rw [ascB_iff]
  intro i h0 hi
  have := h (i - 1) i (by omega) hi (by omega)
  simpa [List.getD, hi, show i - 1 < l.length by omega] using this
theorem muT_ok (v : Int) : ∀ i, i ≤ 12 → pwI (muT v i) ∧ ∀ n ∈ muT v i, 0 ≤ n ∧ n < (i : Int)
  | 0, _ => ⟨List.Pairwise.nil, fun n hn => by simp [muT] at hn⟩
  | i + 1, hi => by
    obtain ⟨h1, h2⟩ := muT_ok v i (by omega)
    simp only [muT]
    split
    · refine ⟨?_, fun n hn => ?_⟩
      · unfold pwI at h1 ⊢
        rw [List.pairwise_append]
        refine ⟨h1, List.pairwise_singleton _ _, fun a ha b hb => ?_⟩
        rw [List.mem_singleton] at hb; subst hb
        exact (h2 a ha).2
      · rcases List.mem_append.1 hn with hn | hn
        · have := h2 n hn; omega
        · rw [List.mem_singleton] at hn; omega
    · exact ⟨h1, fun n hn => by have := h2 n hn; omega⟩
def madeH (fr : Int) (rs : List P2) (os : List Of) (ap mu : Int) : Hr :=
  ⟨(mkR rs (pickW fr 3600) (min rs.length 4)).2, if rs.length = 0 then [] else offT (min rs.length 4) os (min os.length 8), apT (pickW ap 32768) 15, muT (pickW mu 64) 6⟩
theorem made_validH {fr : Int} {rs : List P2} {os : List Of} {ap mu : Int} (hf : okI fr) (hr : ∀ p ∈ rs, okP2 p) (ho : ∀ o ∈ os, okO o) : validH (madeH fr rs os ap mu) = true := by
  have p1 := pickW_rng fr (n := 3600) (by omega) (by omega) hf
  obtain ⟨-, r2, -⟩ := mkR_at hr (a0 := pickW fr 3600) (by omega) (min rs.length 4) (by omega)
  have hl := mkR_len rs (pickW fr 3600) (min rs.length 4)
  have ha := apT_sub (pickW ap 32768) 15 (by omega)
  obtain ⟨m1, m2⟩ := muT_ok (pickW mu 64) 6 (by omega)
  have hoff : ∀ l, (madeH fr rs os ap mu).offers = l → l.length ≤ 12 ∧ pwO l ∧ ∀ o ∈ l, ofOk (min rs.length 4) o = true := by
    rintro l rfl
    show (if rs.length = 0 then [] else offT (min rs.length 4) os (min os.length 8)).length ≤ 12 ∧ _
    by_cases e : rs.length = 0
    · have e2 : (madeH fr rs os ap mu).offers = [] := if_pos e
      rw [e2, if_pos e]
      exact ⟨by simp, List.Pairwise.nil, fun o ho => by cases ho⟩
    · have e2 : (madeH fr rs os ap mu).offers = offT (min rs.length 4) os (min os.length 8) := if_neg e
      rw [e2, if_neg e]
      have hlen := offT_len (min rs.length 4) os (min os.length 8)
      exact ⟨by omega, offT_ok ho (by omega) (by omega) _⟩
  obtain ⟨o1, o2, o3⟩ := hoff _ rfl
  have hrl : (madeH fr rs os ap mu).rooms.length = min rs.length 4 := hl
  simp only [validH, Bool.and_eq_true, decide_eq_true_eq, List.all_eq_true]
  refine ⟨by rw [hrl]; omega, by omega, ?_, ?_, ?_, fun a ha' => prs_ok a (List.mem_of_mem_take (ha.subset ha')), fun n hn => isInB_spec.2 ?_, pwO_iff.2 o2, pw_asc (List.Pairwise.sublist ha (List.Pairwise.sublist (List.take_sublist _ _) prs_pw)), pwI_iff.2 m1⟩
  · have := apT_len (pickW ap 32768) 15
    show ((apT (pickW ap 32768) 15).length : Int) ≤ 12
    omega
  · unfold spsB
    rw [allTo_iff]
    intro i hi
    rw [hrl] at hi
    exact r2 i hi
  · rw [hrl]; exact o3
  · have := m2 n hn; omega
def ixA (a : Nat) : Nat := a * (11 - a) / 2
theorem ixA_s {a : Nat} (h : a < 6) : ixA (a + 1) = ixA a + (5 - a) := by
  match a, h with
  | 0, _ => rfl
  | 1, _ => rfl
  | 2, _ => rfl
  | 3, _ => rfl
  | 4, _ => rfl
  | 5, _ => rfl
theorem prs_at {a b : Nat} (hb : b < 6) (h : a < b) : prs.getD (ixA a + (b - a - 1)) p20 = ⟨a, b⟩ := by
  have : ∀ b : Fin 6, ∀ a : Fin 6, a.val < b.val → prs.getD (ixA a.val + (b.val - a.val - 1)) p20 = ⟨(a.val : Nat), (b.val : Nat)⟩ := by decide
  exact this ⟨b, hb⟩ ⟨a, by omega⟩ h
theorem encOfs_ins (l : List Of) (k : Nat) (o : Of) : encOfs (l.take k ++ o :: l.drop k) = List.take k (encOfs l) ++ (encOf o :: List.drop k (encOfs l)) := by
  simp [encOfs, List.map_take, List.map_drop]
theorem off_same {n : Nat} {x : List Of} {i k : Nat} (hp : posO (mkO n (x.getD i of0)) (offT n x i) = k) (h : (k : Int) < ((offT n x i).length : Nat) ∧ ((offT n x i).getD k of0).pr = (mkO n (x.getD i of0)).pr ∧ ((offT n x i).getD k of0).rm = (mkO n (x.getD i of0)).rm) : offT n x (i + 1) = offT n x i := by
  simp only [offT, insO, hp]
  rw [if_pos ⟨by omega, by simp only [sameK, Bool.and_eq_true, decide_eq_true_eq]; exact h.2⟩]
theorem off_new {n : Nat} {x : List Of} {i k : Nat} (hp : posO (mkO n (x.getD i of0)) (offT n x i) = k) (h : ¬ ((k : Int) < ((offT n x i).length : Nat) ∧ ((offT n x i).getD k of0).pr = (mkO n (x.getD i of0)).pr ∧ ((offT n x i).getD k of0).rm = (mkO n (x.getD i of0)).rm)) : offT n x (i + 1) = (offT n x i).take k ++ mkO n (x.getD i of0) :: (offT n x i).drop k := by
  simp only [offT, insO, hp]
  rw [if_neg]
  rintro ⟨h1, h2⟩
  simp only [sameK, Bool.and_eq_true, decide_eq_true_eq] at h2
  exact h ⟨by omega, h2⟩
theorem mkR_s1 (x : List P2) (a0 : Int) (n : Nat) : (mkR x a0 (n + 1)).1 = IntKind.i64.wrap (IntKind.i64.wrap (IntKind.i64.wrap ((mkR x a0 n).1 + pickW (x.getD n p20).a 30) + 10) + pickW (x.getD n p20).b 60) := by simp only [mkR]
theorem mkR_s2 (x : List P2) (a0 : Int) (n : Nat) : (mkR x a0 (n + 1)).2 = (mkR x a0 n).2 ++ [⟨IntKind.i64.wrap ((mkR x a0 n).1 + pickW (x.getD n p20).a 30), IntKind.i64.wrap (IntKind.i64.wrap (IntKind.i64.wrap ((mkR x a0 n).1 + pickW (x.getD n p20).a 30) + 10) + pickW (x.getD n p20).b 60)⟩] := by simp only [mkR]
theorem off_end {n : Nat} {rs : List P2} {os : List Of} {i m : Nat} (h : i + m = (if rs.length = 0 then 0 else min os.length 8)) (hx : (if rs.length = 0 then 0 else min os.length 8) ≤ i) : offT n os i = (if rs.length = 0 then [] else offT n os (min os.length 8)) := by
  have e : i = (if rs.length = 0 then 0 else min os.length 8) := by omega
  rw [e]
  split <;> rfl
theorem off_step {l : List Of} {o : Of} {k : Nat} (h : ∀ j, j < k → ofLt (l.getD j of0) o = true) (h2 : ofLt (l.getD k of0) o = true) : ∀ j, j < k + 1 → ofLt (l.getD j of0) o = true := fun j hj => by
  by_cases e : j = k
  · subst e; exact h2
  · exact h j (by omega)
theorem ixA_le {a : Nat} (h : a < 6) : ixA a ≤ 30 := by
  have : ∀ a : Fin 6, ixA a.val ≤ 30 := by decide
  exact this ⟨a, h⟩
end Go.Proofs.YtaaongcfeldcoaaDoor

namespace Go.Proofs.YtaaongcfeldcoaaDoor
open Go.RowKit
set_option linter.unusedVariables false
set_option linter.unusedSimpArgs false
theorem gn_set {M : Hr} (hv : validH M = true) (hf : (bestH M).found = true) : keepsH M (bestH M).set = true ∧ gnT M (bestH M).set M.offers.length = (bestH M).gain := by
  obtain ⟨h1, h2, s, h3, h4⟩ := best_fits hv hf
  refine ⟨h1, ?_⟩
  rw [← h2, h3]
  exact gnT_gain (validH_all hv) h4
theorem gn_cho {M : Hr} (hv : validH M = true) {s : Int} (hs : okI s) : gnT M (choW M s) M.offers.length = gainC M (choW M s) := by
  obtain ⟨k, hk, hl⟩ := cho_lt (validH_all hv).ol hs
  rw [hk]; exact gnT_gain (validH_all hv) hl
theorem best_say {M : Hr} (hv : validH M = true) {s : Int} (hs : okI s) (hf : (bestH M).found = true) :
    (keepsH M (choW M s) = false ∨ gnT M (choW M s) M.offers.length < (bestH M).gain) ∨ (gnT M (choW M s) M.offers.length = (bestH M).gain ∧ (bestH M).set ≤ choW M s) := by
  rw [gn_cho hv hs]
  cases hk : keepsH M (choW M s) with
  | false => exact .inl (.inl rfl)
  | true =>
    obtain ⟨-, h2, h3⟩ := bst_all hv hk
    by_cases e : gainC M (choW M s) = (bestH M).gain
    · exact .inr ⟨e, h3 e⟩
    · exact .inl (.inr (by omega))
end Go.Proofs.YtaaongcfeldcoaaDoor

namespace Go.Proofs.YtaaongcfeldcoaaDoor
open Go.RowKit
set_option linter.unusedVariables false
set_option linter.unusedSimpArgs false
theorem mem_keptH {h : Hr} {s : Int} {x : Int} : ∀ {n : Nat}, x ∈ keptH h s n ↔ ∃ k : Nat, k < n ∧ x = k ∧ 0 < manyF h s k h.offers.length
  | 0 => by simp [keptH]
  | n + 1 => by
    simp only [keptH]
    split
    · rename_i hn
      rw [List.mem_append, mem_keptH (n := n), List.mem_singleton]
      constructor
      · rintro (⟨k, hk, h1, h2⟩ | e)
        · exact ⟨k, by omega, h1, h2⟩
        · exact ⟨n, by omega, e, hn⟩
      · rintro ⟨k, hk, h1, h2⟩
        by_cases e : k = n
        · subst e; exact .inr h1
        · exact .inl ⟨k, by omega, h1, h2⟩
    · rename_i hn
      rw [mem_keptH (n := n)]
      constructor
      · rintro ⟨k, hk, h1, h2⟩; exact ⟨k, by omega, h1, h2⟩
      · rintro ⟨k, hk, h1, h2⟩
        by_cases e : k = n
        · subst e; exact absurd h2 hn
        · exact ⟨k, by omega, h1, h2⟩
/-- A choice that fits and keeps the promise fits where the promise must be kept. -/
theorem kept_with {M : Hr} (hv : validH M = true) {n : Int} (hn : 0 ≤ n ∧ n ≤ 11) {s : Int} (hc : choiceH M s = true) : keepsH (withH M n) s = (keepsH M s && decide (n ∈ keptW M s 12)) := by
  rw [with_keeps hv hn]
  congr 1
  obtain ⟨k, rfl, hk⟩ := choiceH_nat hc
  rw [keptW_H (validH_all hv) k 12 (by omega)]
  obtain ⟨p, rfl⟩ := Int.eq_ofNat_of_zero_le hn.1
  have hr := manyF_range M k p M.offers.length
  rw [Bool.eq_iff_iff]
  simp only [Bool.not_eq_true', decide_eq_false_iff_not, decide_eq_true_eq, mem_keptH]
  constructor
  · intro h; exact ⟨p, by omega, rfl, by omega⟩
  · rintro ⟨q, hq, e, h⟩
    have : q = p := by omega
    subst this; omega
end Go.Proofs.YtaaongcfeldcoaaDoor

namespace Go.Proofs.YtaaongcfeldcoaaDoor
open Go.RowKit
set_option linter.unusedVariables false
set_option linter.unusedSimpArgs false
/-- Whoever asks less lets fit what fitted. -/
theorem keeps_less {h k : Hr} (kv : validH k = true) (ho : k.offers = h.offers) {s : Int}
    (hr : ∀ i, i < k.rooms.length → secF h s i h.offers.length = 0 ∨ (i < h.rooms.length ∧ (h.rooms.getD i sp0).to - (h.rooms.getD i sp0).fr ≤ (k.rooms.getD i sp0).to - (k.rooms.getD i sp0).fr))
    (ha : ∀ a ∈ k.apart, a ∈ h.apart) (hm : ∀ n ∈ k.must, n ∈ h.must) (hk : keepsH h s = true) : keepsH k s = true := by
  have e1 : ∀ p n, manyF k s p n = manyF h s p n := fun p n => by unfold manyF; rw [ho]
  have e2 : ∀ p n, secF k s p n = secF h s p n := fun p n => by unfold secF; rw [ho]
  have e3 : ∀ p r n, inF k s p r n = inF h s p r n := fun p r n => by unfold inF; rw [ho]
  have e4 : choiceH k s = choiceH h s := by unfold choiceH; rw [ho]
  have kV := validH_all kv
  unfold keepsH at hk ⊢
  rw [Bool.and_eq_true, Bool.and_eq_true] at hk
  rw [kv, e4, hk.2.1, Bool.true_and, Bool.true_and]
  have hf := hk.2.2
  unfold fitsH at hf ⊢
  simp only [Bool.and_eq_true, allTo_iff, decide_eq_true_eq, List.all_eq_true, e1, e2, e3, ho] at hf ⊢
  obtain ⟨h1, h2, h3, h4⟩ := hf
  refine ⟨h1, fun i hi => ?_, fun a h' => h3 a (ha a h'), fun n h' => h4 n (hm n h')⟩
  rcases hr i hi with e | ⟨h5, h6⟩
  · rw [e]; have := kV.rm i hi; omega
  · have := h2 i h5; omega
/-- The last room, longer. -/
def longL (l : List Sp) (x : Int) : List Sp := if 0 < l.length then l.set (l.length - 1) ⟨(l.getD (l.length - 1) sp0).fr, (l.getD (l.length - 1) sp0).to + x⟩ else l
def longH (h : Hr) (x : Int) : Hr := ⟨longL h.rooms x, h.offers, h.apart, h.must⟩
theorem getD_set' {l : List Sp} {i j : Nat} {a : Sp} (hi : i < l.length) : (l.set i a).getD j sp0 = if j = i then a else l.getD j sp0 := by
  by_cases e : j = i
  · subst e; simp [List.getD, hi]
  · rw [if_neg e]; simp [List.getD, List.getElem?_set, Ne.symm e]
theorem longL_length (l : List Sp) (x : Int) : (longL l x).length = l.length := by unfold longL; split <;> simp
theorem longL_getD (l : List Sp) (x : Int) {i : Nat} (hi : i < l.length) : ((longL l x).getD i sp0).fr = (l.getD i sp0).fr ∧ ((longL l x).getD i sp0).to = (if i = l.length - 1 then (l.getD i sp0).to + x else (l.getD i sp0).to) := by
  unfold longL
  rw [if_pos (by omega), getD_set' (by omega)]
  by_cases e : i = l.length - 1
  · rw [if_pos e, if_pos e, e]; exact ⟨rfl, rfl⟩
  · rw [if_neg e, if_neg e]; exact ⟨rfl, rfl⟩
theorem sps_iff {l : List Sp} : spsB l = true ↔ ∀ i, i < l.length → 0 ≤ (l.getD i sp0).fr ∧ (l.getD i sp0).fr < (l.getD i sp0).to ∧ (l.getD i sp0).to ≤ 10000000 ∧ (0 < i → (l.getD (i - 1) sp0).to ≤ (l.getD i sp0).fr) := by
  unfold spsB; rw [allTo_iff]
  exact ⟨fun h i hi => spOk_iff.1 (h i hi), fun h i hi => spOk_iff.2 (h i hi)⟩
theorem valid_rooms {h : Hr} {l : List Sp} (hv : validH h = true) (hl : l.length = h.rooms.length) (hs : spsB l = true) : validH ⟨l, h.offers, h.apart, h.must⟩ = true := by
  simp only [validH, Bool.and_eq_true, decide_eq_true_eq, List.all_eq_true] at hv ⊢
  obtain ⟨h1, h2, h3, h4, h5, h6, h7, h8, h9, h10⟩ := hv
  exact ⟨by rw [hl]; exact h1, h2, h3, hs, fun o ho => by rw [hl]; exact h5 o ho, h6, h7, h8, h9, h10⟩
theorem long_valid {h : Hr} (hv : validH h = true) {x : Int} (hx : 0 ≤ x) (hm : ∀ i, i < h.rooms.length → (h.rooms.getD i sp0).to + x ≤ 10000000) : validH (longH h x) = true := by
  have hV := validH_all hv
  refine valid_rooms hv (longL_length _ _) (sps_iff.2 fun i hi => ?_)
  rw [longL_length] at hi
  obtain ⟨e1, e2⟩ := longL_getD h.rooms x hi
  have h1 := hV.rm i hi
  have h2 := hm i hi
  rw [e1, e2]
  refine ⟨h1.1, by split <;> omega, by split <;> omega, fun h0 => ?_⟩
  obtain ⟨-, e4⟩ := longL_getD h.rooms x (i := i - 1) (by omega)
  rw [e4, if_neg (by omega)]
  exact h1.2.2.2 h0
theorem long_keeps {h : Hr} (hv : validH h = true) {x : Int} (hx : 0 ≤ x) (hm : ∀ i, i < h.rooms.length → (h.rooms.getD i sp0).to + x ≤ 10000000) (s : Int) (hk : keepsH h s = true) : keepsH (longH h x) s = true := by
  refine keeps_less (h := h) (long_valid hv hx hm) rfl (fun i hi => .inr ?_) (fun a h => h) (fun n h => h) hk
  have hi' : i < h.rooms.length := by simpa [longH, longL_length] using hi
  obtain ⟨e1, e2⟩ := longL_getD h.rooms x hi'
  refine ⟨hi', ?_⟩
  show _ ≤ ((longL h.rooms x).getD i sp0).to - ((longL h.rooms x).getD i sp0).fr
  rw [e1, e2]; split <;> omega
/-- Without a pair that is apart; without a promise that must be kept. -/
def cutL {α : Type} (l : List α) (k : Nat) : List α := l.take k ++ l.drop (k + 1)
def looseH (h : Hr) (k : Nat) : Hr := ⟨h.rooms, h.offers, cutL h.apart k, h.must⟩
def freeH (h : Hr) (k : Nat) : Hr := ⟨h.rooms, h.offers, h.apart, cutL h.must k⟩
theorem cutL_sub {α : Type} (l : List α) (k : Nat) : (cutL l k).Sublist l := by
  have h1 : (l.drop (k + 1)).Sublist (l.drop k) := by
    rw [← List.drop_drop]; exact List.drop_sublist 1 _
  have := (List.Sublist.refl (l.take k)).append h1
  rwa [List.take_append_drop] at this
theorem cutL_none {α : Type} {l : List α} (h : l.length = 0) (k : Nat) : cutL l k = l := by rw [List.length_eq_zero_iff.1 h]; simp [cutL]
theorem cutL_len {α : Type} (l : List α) (k : Nat) : (cutL l k).length ≤ l.length := (cutL_sub l k).length_le
theorem asc_sub {α : Type} {d : α} {lt : α → α → Bool} (htr : ∀ a b c, lt a b = true → lt b c = true → lt a c = true) {l m : List α} (h : ascB d lt l = true) (hs : m.Sublist l) : ascB d lt m = true := by
  refine pw_asc (List.Pairwise.sublist hs ?_)
  rw [List.pairwise_iff_getElem]
  intro i j hi hj hij
  have := asc_lt htr h hij hj
  simpa [List.getD, hi, hj] using this
theorem loose_valid {h : Hr} (hv : validH h = true) (k : Nat) : validH (looseH h k) = true := by
  simp only [validH, Bool.and_eq_true, decide_eq_true_eq, List.all_eq_true] at hv ⊢
  obtain ⟨h1, h2, h3, h4, h5, h6, h7, h8, h9, h10⟩ := hv
  have := cutL_len h.apart k
  exact ⟨h1, h2, by show ((cutL h.apart k).length : Int) ≤ 12; omega, h4, h5, fun a ha => h6 a ((cutL_sub _ _).subset ha), h7, h8, asc_sub p2Lt_tr h9 (cutL_sub _ _), h10⟩
theorem free_valid {h : Hr} (hv : validH h = true) (k : Nat) : validH (freeH h k) = true := by
  simp only [validH, Bool.and_eq_true, decide_eq_true_eq, List.all_eq_true] at hv ⊢
  obtain ⟨h1, h2, h3, h4, h5, h6, h7, h8, h9, h10⟩ := hv
  exact ⟨h1, h2, h3, h4, h5, h6, fun a ha => h7 a ((cutL_sub _ _).subset ha), h8, h9, asc_sub (fun a b c h k => by simp only [decide_eq_true_eq] at *; omega) h10 (cutL_sub _ _)⟩
theorem loose_keeps {h : Hr} (hv : validH h = true) (k : Nat) (s : Int) (hk : keepsH h s = true) : keepsH (looseH h k) s = true :=
  keeps_less (h := h) (loose_valid hv k) rfl (fun i hi => .inr ⟨hi, Int.le_refl _⟩) (fun a ha => (cutL_sub _ _).subset ha) (fun n h => h) hk
theorem free_keeps {h : Hr} (hv : validH h = true) (k : Nat) (s : Int) (hk : keepsH h s = true) : keepsH (freeH h k) s = true :=
  keeps_less (h := h) (free_valid hv k) rfl (fun i hi => .inr ⟨hi, Int.le_refl _⟩) (fun a h => h) (fun n ha => (cutL_sub _ _).subset ha) hk
theorem with_less {h : Hr} (hv : validH h = true) {n : Int} (hn : 0 ≤ n ∧ n ≤ 11) (hf : (bestH (withH h n)).found = true) : (bestH h).found = true ∧ (bestH (withH h n)).gain ≤ (bestH h).gain :=
  best_mono (with_valid hv hn) hv rfl (fun s hs => by rw [with_keeps hv hn, Bool.and_eq_true] at hs; exact hs.1) hf
/-- Seconds lost at the beginning of the first room. -/
def lateL (l : List Sp) (x : Int) : List Sp := l.set 0 ⟨(l.getD 0 sp0).fr + x, (l.getD 0 sp0).to⟩
def lateH (h : Hr) (x : Int) : Hr := ⟨lateL h.rooms x, h.offers, h.apart, h.must⟩
theorem late_valid {h : Hr} (hv : validH h = true) (h0 : 0 < h.rooms.length) {x : Int} (hx : 0 ≤ x ∧ x < (h.rooms.getD 0 sp0).to - (h.rooms.getD 0 sp0).fr) : validH (lateH h x) = true := by
  have hV := validH_all hv
  refine valid_rooms hv (by simp [lateL]) (sps_iff.2 fun i hi => ?_)
  have hi' : i < h.rooms.length := by simpa [lateL] using hi
  have h1 := hV.rm i hi'
  unfold lateL
  rw [getD_set' h0, getD_set' h0]
  by_cases e : i = 0
  · subst e
    rw [if_pos rfl]
    exact ⟨by show 0 ≤ (h.rooms.getD 0 sp0).fr + x; omega, by show (h.rooms.getD 0 sp0).fr + x < (h.rooms.getD 0 sp0).to; omega, h1.2.2.1, fun h => by omega⟩
  · rw [if_neg e]
    refine ⟨h1.1, h1.2.1, h1.2.2.1, fun h2 => ?_⟩
    have h3 := h1.2.2.2 h2
    by_cases e2 : i - 1 = 0
    · rw [if_pos e2]; rw [e2] at h3; exact h3
    · rw [if_neg e2]; exact h3
theorem late_fits {h : Hr} (hv : validH h = true) (h0 : 0 < h.rooms.length) {x : Int} (hx : 0 ≤ x ∧ x < (h.rooms.getD 0 sp0).to - (h.rooms.getD 0 sp0).fr) (s : Int) (hk : keepsH (lateH h x) s = true) : keepsH h s = true := by
  refine keeps_less (h := lateH h x) hv rfl (fun i hi => .inr ⟨by simpa [lateH, lateL] using hi, ?_⟩) (fun a h => h) (fun n h => h) hk
  show ((lateL h.rooms x).getD i sp0).to - ((lateL h.rooms x).getD i sp0).fr ≤ _
  unfold lateL
  rw [getD_set' h0]
  by_cases e : i = 0
  · subst e; rw [if_pos rfl]; show (h.rooms.getD 0 sp0).to - ((h.rooms.getD 0 sp0).fr + x) ≤ _; omega
  · rw [if_neg e]; exact Int.le_refl _
/-- A choice that takes nothing in the first room. -/
theorem late_keeps {h : Hr} (hv : validH h = true) (h0 : 0 < h.rooms.length) {x : Int} (hx : 0 ≤ x ∧ x < (h.rooms.getD 0 sp0).to - (h.rooms.getD 0 sp0).fr) {s : Int} (ht : ∀ i, i < h.offers.length → tkn s i = true → 0 < (h.offers.getD i of0).rm) (hk : keepsH h s = true) : keepsH (lateH h x) s = true := by
  refine keeps_less (h := h) (late_valid hv h0 hx) rfl (fun i hi => ?_) (fun a h => h) (fun n h => h) hk
  have hi' : i < h.rooms.length := by simpa [lateH, lateL] using hi
  by_cases e : i = 0
  · subst e
    refine .inl (smT_zero fun j hj => ?_)
    by_cases hb : tkn s j = true
    · have := ht j hj hb
      rw [if_neg]
      simp only [Bool.and_eq_true, decide_eq_true_eq]
      rintro ⟨-, h2⟩; omega
    · rw [if_neg]; intro h2; exact hb (Bool.and_eq_true _ _ ▸ h2).1
  · refine .inr ⟨hi', ?_⟩
    show _ ≤ ((lateL h.rooms x).getD i sp0).to - ((lateL h.rooms x).getD i sp0).fr
    unfold lateL
    rw [getD_set' h0, if_neg e]; exact Int.le_refl _
theorem late_best {h : Hr} (hv : validH h = true) (h0 : 0 < h.rooms.length) {x : Int} (hx : 0 ≤ x ∧ x < (h.rooms.getD 0 sp0).to - (h.rooms.getD 0 sp0).fr) (hf : (bestH (lateH h x)).found = true) : (bestH h).found = true ∧ (bestH (lateH h x)).gain ≤ (bestH h).gain :=
  best_mono (late_valid hv h0 hx) hv rfl (fun s hs => late_fits hv h0 hx s hs) hf
/-- The offers that lie in no first room, as bits. -/
def aprN (h : Hr) : Nat → Nat
  | 0 => 0
  | n + 1 => if 0 < (h.offers.getD n of0).rm then aprN h n + 2 ^ n else aprN h n
theorem aprN_spec (h : Hr) : ∀ n, aprN h n < 2 ^ n ∧ ∀ i, (aprN h n).testBit i = true → i < n ∧ 0 < (h.offers.getD i of0).rm
  | 0 => ⟨by simp [aprN], fun i hi => by simp [aprN] at hi⟩
  | n + 1 => by
    obtain ⟨h1, h2⟩ := aprN_spec h n
    have hp : 2 ^ (n + 1) = 2 ^ n + 2 ^ n := by rw [Nat.pow_succ]; omega
    simp only [aprN]
    split
    · rename_i hr
      refine ⟨by omega, fun i hi => ?_⟩
      rw [Nat.add_comm] at hi
      by_cases e : i = n
      · subst e; exact ⟨by omega, hr⟩
      · have hi2 : (aprN h n).testBit i = true := by
          by_cases hlt : i < n
          · rw [← Nat.testBit_two_pow_add_gt hlt (aprN h n)]; exact hi
          · rw [Nat.testBit_lt_two_pow] at hi
            · cases hi
            · have : 2 ^ (n + 1) ≤ 2 ^ i := Nat.pow_le_pow_right (by omega) (by omega)
              omega
        have := h2 i hi2
        exact ⟨by omega, this.2⟩
    · refine ⟨by omega, fun i hi => ?_⟩
      have := h2 i hi
      exact ⟨by omega, this.2⟩
theorem apr_step {h : Hr} {n : Nat} (hn : n < 12) : (0 < (h.offers.getD n of0).rm → IntKind.i64.wrap ((aprN h n : Nat) + shlW .i64 1 n) = ((aprN h (n + 1) : Nat) : Int)) ∧ (¬ 0 < (h.offers.getD n of0).rm → aprN h (n + 1) = aprN h n) := by
  have h1 := (aprN_spec h n).1
  have h2 : 2 ^ n ≤ 2 ^ 12 := Nat.pow_le_pow_right (by omega) (by omega)
  refine ⟨fun hr => ?_, fun hr => ?_⟩
  · rw [shl1 (by omega), w64 (by omega)]; simp only [aprN]; rw [if_pos hr]; omega
  · simp only [aprN]; rw [if_neg hr]
theorem later_room {h : Hr} (hol : h.offers.length ≤ 12) {s : Nat} (hs : s < 2 ^ h.offers.length) : ∀ i, i < h.offers.length → tkn (bitsV .and .i64 (s : Nat) ((aprN h h.offers.length : Nat) : Int)) i = true → 0 < (h.offers.getD i of0).rm := by
  intro i hi ht
  have hp : 2 ^ h.offers.length ≤ 2 ^ 12 := Nat.pow_le_pow_right (by omega) hol
  obtain ⟨h1, h2⟩ := aprN_spec h h.offers.length
  rw [andN (by omega) (by omega)] at ht
  have hle : s &&& aprN h h.offers.length ≤ s := Nat.and_le_left
  unfold tkn at ht
  rw [cBit_nat (by omega) (by omega), Nat.testBit_and, Bool.and_eq_true] at ht
  exact (h2 i ht.2).2
theorem to_mono {l : List Sp} (h : spsB l = true) {i j : Nat} (hij : i ≤ j) (hj : j < l.length) : (l.getD i sp0).to ≤ (l.getD j sp0).to := by
  rw [sps_iff] at h
  induction j with
  | zero => have : i = 0 := by omega
            subst this; exact Int.le_refl _
  | succ j ih =>
    by_cases e : i = j + 1
    · subst e; exact Int.le_refl _
    · have h1 := ih (by omega) (by omega)
      have h2 := h (j + 1) hj
      rw [Nat.add_sub_cancel] at h2
      have := h2.2.2.2 (by omega)
      omega
theorem made_to {fr : Int} {rs : List P2} {os : List Of} {ap mu : Int} (hf : okI fr) (hr : ∀ p ∈ rs, okP2 p) {i : Nat} (hi : i < (madeH fr rs os ap mu).rooms.length) : ((madeH fr rs os ap mu).rooms.getD i sp0).to ≤ 4000 := by
  have p1 := pickW_rng fr (n := 3600) (by omega) (by omega) hf
  have hl : (mkR rs (pickW fr 3600) (min rs.length 4)).2.length = min rs.length 4 := mkR_len rs (pickW fr 3600) (min rs.length 4)
  have hi2 : i < (mkR rs (pickW fr 3600) (min rs.length 4)).2.length := hi
  obtain ⟨r1, r2, r3⟩ := mkR_at hr (a0 := pickW fr 3600) (by omega) (min rs.length 4) (by omega)
  have hs : spsB (mkR rs (pickW fr 3600) (min rs.length 4)).2 = true := by
    unfold spsB; rw [allTo_iff, hl]; exact r2
  have h1 := to_mono hs (show i ≤ min rs.length 4 - 1 by omega) (by omega)
  have h2 := r3 (by omega)
  show ((mkR rs (pickW fr 3600) (min rs.length 4)).2.getD i sp0).to ≤ 4000
  omega
end Go.Proofs.YtaaongcfeldcoaaDoor

namespace Go.Proofs.YtaaongcfeldcoaaDoor
open Go.RowKit
set_option linter.unusedVariables false
set_option linter.unusedSimpArgs false
def hasT (l : List Int) (n : Int) : Nat → Bool
  | 0 => false
  | i + 1 => hasT l n i || decide (l.getD i 0 = n)
theorem hasT_iff {l : List Int} {n : Int} : ∀ {i : Nat}, i ≤ l.length → (hasT l n i = true ↔ n ∈ l.take i)
  | 0, _ => by simp [hasT]
  | i + 1, hi => by
    have h1 := hasT_iff (l := l) (n := n) (i := i) (by omega)
    rw [take_snocI (by omega), List.mem_append, List.mem_singleton]
    simp only [hasT, Bool.or_eq_true, decide_eq_true_eq, h1]
    constructor
    · rintro (h | h)
      · exact .inl h
      · exact .inr h.symm
    · rintro (h | h)
      · exact .inl h
      · exact .inr h.symm
theorem hasT_all {l : List Int} {n : Int} : hasT l n l.length = decide (n ∈ l) := by
  rw [Bool.eq_iff_iff, hasT_iff (Nat.le_refl _), List.take_length, decide_eq_true_eq]
theorem rf_found {M : Hr} (hv : validH M = true) {n : Int} (hn : 0 ≤ n ∧ n ≤ 11) (hx : (bestH (withH M n)).found = true) :
    choiceH M (bestH (withH M n)).set = true ∧ keepsH M (bestH (withH M n)).set = true ∧ hasT (keptW M (bestH (withH M n)).set 12) n (keptW M (bestH (withH M n)).set 12).length = true := by
  obtain ⟨h1, -⟩ := best_fits (with_valid hv hn) hx
  have hc : choiceH M (bestH (withH M n)).set = true := by
    have h2 := h1
    unfold keepsH at h2
    rw [Bool.and_eq_true, Bool.and_eq_true] at h2
    exact h2.2.1
  rw [kept_with hv hn hc, Bool.and_eq_true] at h1
  exact ⟨hc, h1.1, by rw [hasT_all]; exact h1.2⟩
theorem rf_none {M : Hr} (hv : validH M = true) {n : Int} (hn : 0 ≤ n ∧ n ≤ 11) (hx : (bestH (withH M n)).found = false) {s : Int} (hc : choiceH M s = true) :
    (hasT (keptW M s 12) n (keptW M s 12).length && keepsH M s) = false := by
  have h1 := (best_none (with_valid hv hn) hx).2.2 s
  rw [kept_with hv hn hc] at h1
  rw [hasT_all, Bool.and_comm]; exact h1
def rows3 (M : Hr) (x : Int) (a b : Nat) : List (List V) := [encHr (longH M x), encHr (looseH M a), encHr (freeH M b)]
theorem rows3_len (M : Hr) (x : Int) (a b : Nat) : (rows3 M x a b).length = 3 := rfl
/-- One of the three hours that ask less. -/
theorem less_at {M : Hr} (hv : validH M = true) {x : Int} (hx : 0 ≤ x) (hm : ∀ i, i < M.rooms.length → (M.rooms.getD i sp0).to + x ≤ 10000000) (a b : Nat) {i : Nat} (hi : i < 3) :
    ∃ k : Hr, (rows3 M x a b).getD i [] = encHr k ∧ validH k = true ∧ (∀ s, keepsH M s = true → keepsH k s = true) ∧ ((bestH M).found = true → (bestH k).found = true ∧ (bestH M).gain ≤ (bestH k).gain) := by
  match i, hi with
  | 0, _ => exact ⟨_, rfl, long_valid hv hx hm, fun s => long_keeps hv hx hm s, best_mono hv (long_valid hv hx hm) rfl fun s => long_keeps hv hx hm s⟩
  | 1, _ => exact ⟨_, rfl, loose_valid hv a, fun s => loose_keeps hv a s, best_mono hv (loose_valid hv a) rfl fun s => loose_keeps hv a s⟩
  | 2, _ => exact ⟨_, rfl, free_valid hv b, fun s => free_keeps hv b s, best_mono hv (free_valid hv b) rfl fun s => free_keeps hv b s⟩
theorem encI_cut (l : List Int) (k : Nat) : encI (l.take k) ++ encI (l.drop (k + 1)) = encI (cutL l k) := by simp [encI, cutL]
theorem encP2s_cut (l : List P2) (k : Nat) : encP2s (l.take k) ++ encP2s (l.drop (k + 1)) = encP2s (cutL l k) := by simp [encP2s, cutL]
theorem encI_take' (l : List Int) (k : Nat) : List.take k (encI l) = encI (l.take k) := by simp [encI, List.map_take]
theorem encI_drop' (l : List Int) (k : Nat) : List.drop k (encI l) = encI (l.drop k) := by simp [encI, List.map_drop]
theorem encP2s_take (l : List P2) (k : Nat) : List.take k (encP2s l) = encP2s (l.take k) := by simp [encP2s, List.map_take]
theorem encP2s_drop (l : List P2) (k : Nat) : List.drop k (encP2s l) = encP2s (l.drop k) := by simp [encP2s, List.map_drop]
theorem encSps_set (l : List Sp) (i : Nat) (r : Sp) : List.set (encSps l) i (encSp r) = encSps (l.set i r) := by simp [encSps, List.map_set]
end Go.Proofs.YtaaongcfeldcoaaDoor

namespace Go.Proofs.YtaaongcfeldcoaaDoor
open Go.RowKit
set_option linter.unusedVariables false
set_option linter.unusedSimpArgs false
set_option maxRecDepth 100000
attribute [local go_sem] Nat.zero_add Nat.add_zero Nat.mul_one eq_self ne_eq not_true_eq_false not_false_eq_true decide_true decide_false decide_not Bool.false_eq_true List.filter_cons List.filter_nil true_and and_true beq_false beq_true Bool.not_true Bool.not_false Bool.and_true Bool.true_and Option.getD_some Option.getD_none imp_self implies_true Int.toNat_natCast List.cons_append List.nil_append List.map_cons List.map_nil List.length_cons List.length_nil List.getD_cons_zero List.getD_cons_succ List.drop_zero List.drop_succ_cons List.take_succ_cons List.take_zero
attribute [local go_sem] lowN lowQ lowM isAl appOwn unw appF isE isO stpO notIn St.bare evO evDO isEff stp St.get St.slot St.put List.lookup un unL ofVal gof nth pickV pkB_false pkB_true binV unV loadV idxV fldV partV buildV fillV lenV sliV appV appR rowsV winV V.parts V.okp V.sc Mem.look_cons Mem.look_nil V.cl V.clL AObj.clo fzAll exps St.fz Mem.fz V.fz V.fzL AObj.fz Option.isSome_some Option.isSome_none Bool.or_true Bool.true_or Bool.or_false Bool.false_or false_and and_false false_or or_false arT_112 arT_22 arT_23 arT_27 arT_28 arT_29 arT_33 arT_52 arT_57 arT_65 arT_76 arT_77 arT_84 arT_88 arT_9 arT_95 boolT_133 boolT_29 boolT_3 boolT_36 boolT_4 boolT_70 boolT_92 flatT_133 flatT_29 flatT_3 flatT_36 flatT_4 flatT_70 flatT_92 intT_121 intT_142 intT_144 intT_145 intT_3 intT_5 lay_110 lay_145 lay_22 lay_23 lay_25 lay_27 lay_28 lay_29 lay_3 lay_31 lay_33 lay_35 lay_4 lay_42 lay_51 lay_56 lay_57 lay_59 lay_70 lay_73 lay_77 lay_79 lay_81 lay_83 lay_84 lay_85 lay_88 lay_92 lay_94 lay_95 okF_10 okF_100 okF_101 okF_102 okF_103 okF_104 okF_105 okF_11 okF_12 okF_122 okF_123 okF_124 okF_125 okF_126 okF_127 okF_13 okF_14 okF_15 okF_16 okF_17 okF_18 okF_19 okF_20 okF_21 okF_22 okF_23 okF_24 okF_25 okF_26 okF_27 okF_28 okF_29 okF_3 okF_30 okF_31 okF_32 okF_33 okF_34 okF_35 okF_36 okF_37 okF_38 okF_39 okF_4 okF_40 okF_41 okF_42 okF_43 okF_44 okF_45 okF_46 okF_47 okF_48 okF_49 okF_5 okF_50 okF_51 okF_52 okF_53 okF_54 okF_55 okF_56 okF_57 okF_58 okF_59 okF_6 okF_60 okF_61 okF_62 okF_63 okF_64 okF_65 okF_66 okF_67 okF_68 okF_69 okF_7 okF_70 okF_71 okF_72 okF_73 okF_74 okF_75 okF_76 okF_77 okF_78 okF_79 okF_8 okF_80 okF_81 okF_82 okF_83 okF_84 okF_85 okF_86 okF_87 okF_88 okF_89 okF_9 okF_90 okF_91 okF_92 okF_93 okF_94 okF_95 okF_96 okF_97 okF_98 okF_99 plT_31 plT_35 plT_51 plT_56 plT_59 plT_70 plT_73 plT_90 plT_92 plT_95 slT_112 slT_22 slT_23 slT_27 slT_28 slT_29 slT_33 slT_52 slT_57 slT_65 slT_76 slT_77 slT_88 slT_95 stT_25_0 stT_25_1 stT_25_2 stT_25_3 stT_25_4 stT_31_0 stT_31_1 stT_31_2 stT_31_3 stT_35_0 stT_35_1 stT_35_2 stT_35_3 stT_51_0 stT_51_1 stT_56_0 stT_56_1 stT_56_2 stT_56_3 stT_59_0 stT_59_1 stT_59_2 stT_73_0 stT_73_3 stT_73_4 stT_73_5 stT_79_0 stT_79_1 stT_79_2 stT_83_0 stT_90_0 stT_90_1 stT_90_2 stT_90_3 strT_76 strT_77 strT_84 strT_9 zeroT_112 zeroT_145 zeroT_3 zeroT_31 zeroT_33 zeroT_35 zeroT_42 zeroT_51 zeroT_56 zeroT_57 zeroT_59 zeroT_70 zeroT_73 zeroT_79 zeroT_83 zeroT_90 zeroT_92 zeroT_95
attribute [local go_sem] List.getElem?_cons_zero List.getElem?_cons_succ List.zip_cons_cons List.zip_nil_left List.zip_nil_right Bool.false_and Bool.and_false List.length_append List.length_set List.length_replicate List.all_cons List.all_nil encI_length encI_getD encR_length encR_getD encRw encPg spl shp AObj.shp rowM isSt isRpS isRd csh AObj.csh forall_const imp_self
attribute [local go_sem] encHr encOf encSp encP2 encSps_length encOfs_length encP2s_length encSps_getD encOfs_getD encP2s_getD
attribute [local simp] encI_length encR_length cellsI_length encSps_length encOfs_length encP2s_length
set_option maxHeartbeats 16000000 in
theorem k27 (fr : Int) (rs : List P2) (os : List Of) (ap mu : Int) (hrl : rs.length ≤ maxLen) (hol : os.length ≤ maxLen) (hrk : ∀ p ∈ rs, okP2 p) (hf : okI fr) : CallsA Tryd.prog 27 [.int .i64 fr, .sl 2 (encP2s rs), .sl 4 (encOfs os), .int .i64 ap, .int .i64 mu] (.agg (encHr (madeH fr rs os ap mu))) := by
  unfold maxLen at hrl hol
  obtain ⟨n, hn⟩ : ∃ n, min rs.length 4 = n := ⟨_, rfl⟩
  have hRl := mkR_len rs (pickW fr 3600) n
  have hq := hRl
  refine callsA_of_tr Tryd.func27 rfl (Nat.le_of_ble_eq_true rfl) ?_
  simp only [Tryd.results27, envOf, Nat.reduceAdd]
  refine tr_seq fun K1 hK1 => ?_
  refine tr_region [0, 1, 2, 3, 4, 10] rfl rfl fun K hK => ?_
  refine evR_p ?_
  refine evR_e hK ?_; clear hK K
  refine hK1 _ ?_
  refine tr_seq fun K2 hK2 => ?_
  refine tr_region [0, 1, 2, 3, 4, 10, 11] rfl rfl fun K hK => ?_
  refine evR_p ?_
  refine evR_e hK ?_; clear hK K
  refine hK2 _ ?_
  refine tr_seq fun K3 hK3 => ?_
  refine tr_region [1, 2, 3, 4, 10, 11, 12] rfl rfl fun K hK => ?_
  refine evR_p ?_
  refine evR_c (hc := (c37 _ 3600 (by omega))) (k := ?_)
  refine evR_p ?_
  refine evR_e hK ?_; clear hK K
  refine hK3 _ ?_
  refine tr_seq fun K4 hK4 => ?_
  refine tr_seq fun K5 hK5 => ?_
  refine tr_region [1, 2, 3, 4, 10, 11, 12, 13] rfl rfl fun K hK => ?_
  refine evR_p ?_
  refine evR_e hK ?_; clear hK K
  refine hK5 _ ?_
  refine tr_block ?_
  -- loop 1: live [1, 2, 3, 4, 10, 11, 12, 13]
  refine tr_loopW (fun m σ => ∃ i : Nat, i + m = n ∧ σ = ⟨[(1, .sl 2 (encP2s rs)), (2, .sl 4 (encOfs os)), (3, .int .i64 ap), (4, .int .i64 mu), (10, .ptr 0 0), (11, .ptr 1 0), (12, .int .i64 (mkR rs (pickW fr 3600) i).1), (13, .int .i64 (i : Nat))], [(2, .row 51 2 (encSps (mkR rs (pickW fr 3600) i).2)), (1, .cells [.own 2, .nsl, .nsl, .nsl]), (0, .cells [.nsl, .nsl, .nsl, .nsl])], 3⟩) (n) ?_ ?_
  · exact ⟨_, Wk.nilown 51 2 1 0 rfl (Nat.le_of_ble_eq_true rfl) rfl, 0, by omega, rfl⟩
  · rintro m σ ⟨i, hi, rfl⟩ KL1 hKL1
    refine tr_seq fun K6 hK6 => ?_
    refine tr_seq fun K7 hK7 => ?_
    refine tr_region [1, 2, 3, 4, 10, 11, 12, 13, 31] rfl rfl fun K hK => ?_
    iterate 5 refine evR_p ?_
    iterate 2 refine evR_g ?_
    refine evR_p ?_
    refine evR_e hK ?_; clear hK K
    refine hK7 _ ?_
    refine tr_condB (fun ht1 => ?_) (fun ht1 => ?_)
    · skip
      have hil : i < n := by omega
      have hil2 : i < rs.length := by omega
      have hml := mkR_len rs (pickW fr 3600) i
      replace hq := And.intro hq (And.intro hil (And.intro hil2 (hml)))
      refine tr_skip ?_
      (try simp only [thenE, inBlkE])
      refine hK6 _ ?_
      refine tr_seq fun K8 hK8 => ?_
      refine tr_block ?_
      refine tr_seq fun K9 hK9 => ?_
      refine tr_region [1, 2, 3, 4, 10, 11, 12, 13] rfl rfl fun K hK => ?_
      iterate 6 refine evR_p ?_
      refine evR_c (hc := (c37 _ 30 (by omega))) (k := ?_)
      iterate 2 refine evR_p ?_
      refine evR_e hK ?_; clear hK K
      refine hK9 _ ?_
      refine tr_seq fun K10 hK10 => ?_
      refine tr_region [1, 2, 3, 4, 10, 11, 12, 13, 14] rfl rfl fun K hK => ?_
      iterate 7 refine evR_p ?_
      refine evR_c (hc := (c37 _ 60 (by omega))) (k := ?_)
      iterate 2 refine evR_p ?_
      refine evR_e hK ?_; clear hK K
      refine hK10 _ ?_
      refine tr_seq fun K11 hK11 => ?_
      refine tr_region [1, 2, 3, 4, 10, 11, 13, 14] rfl rfl fun K hK => ?_
      iterate 5 refine evR_p ?_
      refine evR_bs ?_
      iterate 3 refine evR_p ?_
      refine evR_e hK ?_; clear hK K
      refine hK11 _ ?_
      refine tr_region [1, 2, 3, 4, 10, 11, 12, 13] rfl rfl fun K hK => ?_
      iterate 2 refine evR_p ?_
      refine evR_e hK ?_; clear hK K
      refine hK8 _ ?_
      refine tr_region [1, 2, 3, 4, 10, 11, 12, 13] rfl rfl fun K hK => ?_
      iterate 3 refine evR_p ?_
      refine evR_e hK ?_; clear hK K
      refine hKL1 _ ?_
      exact ⟨m - 1, _, by omega, (Wk.trans (Wk.ren 3 2 (Nat.le_of_ble_eq_true rfl) (Nat.le_of_ble_eq_true rfl) rfl) (Wk.cut 3 rfl)), i + 1, by omega, by rw [w64 (x := (i : Int) + 1) (by omega), mkR_s1, mkR_s2, encSps_snoc]; rfl⟩
    · skip
      have hil : n = i := by omega
      subst hil
      refine tr_exit ?_
      simp only [thenE, inBlkE, Nat.reduceEqDiff, ↓reduceIte]
      refine hK4 _ ?_
      refine tr_seq fun K12 hK12 => ?_
      refine tr_seq fun K13 hK13 => ?_
      refine tr_wk (Wk.nilown 56 4 1 1 rfl (by decide) rfl) ?_
      try simp only [List.map_cons, List.map_nil, Nat.reduceEqDiff, ↓reduceIte, List.set_cons_zero, List.set_cons_succ, Nat.reduceAdd]
      refine tr_fz [.own 2, .own 3] (by simp (maxSteps := 4000000) (disch := first | assumption | omega | (simp only [go_sem, *]; done) | (simp only [go_sem, *]; omega)) only [go_sem, hq, Int.reduceToNat, Nat.reduceBEq, Nat.reduceEqDiff, Nat.reduceAdd, Nat.reduceMul, Nat.reduceLeDiff, Nat.reduceLT, Nat.reduceSub, ↓reduceIte, reduceCtorEq]; (try rfl)) ?_
      refine tr_region [2, 3, 4, 10, 11, 15] rfl rfl fun K hK => ?_
      refine evR_p ?_
      refine evR_e hK ?_; clear hK K
      refine hK13 _ ?_
      refine tr_block ?_
      -- loop 2: live [2, 3, 4, 10, 11, 15]
      refine tr_loopW (fun m σ => ∃ i : Nat, i + m = (if rs.length = 0 then 0 else min os.length 8) ∧ σ = ⟨[(2, .sl 4 (encOfs os)), (3, .int .i64 ap), (4, .int .i64 mu), (10, .ptr 0 0), (11, .ptr 1 0), (15, .int .i64 (i : Nat))], [(1, .cells [.sl 2 (encSps (mkR rs (pickW fr 3600) n).2), .sl 4 (encOfs (offT n os i)), .nsl, .nsl]), (0, .cells [.nsl, .nsl, .nsl, .nsl])], 4⟩) ((if rs.length = 0 then 0 else min os.length 8)) ?_ ?_
      · exact ⟨_, Wk.refl _, 0, by omega, rfl⟩
      · rintro m2 σ ⟨i, hi, rfl⟩ KL2 hKL2
        refine tr_seq fun K14 hK14 => ?_
        refine tr_seq fun K15 hK15 => ?_
        refine tr_region [2, 3, 4, 10, 11, 15, 73] rfl rfl fun K hK => ?_
        iterate 5 refine evR_p ?_
        iterate 2 refine evR_g ?_
        iterate 2 refine evR_p ?_
        iterate 4 refine evR_g ?_
        refine evR_p ?_
        refine evR_e hK ?_; clear hK K
        refine hK15 _ ?_
        refine tr_condB (fun ht2 => ?_) (fun ht2 => ?_)
        · skip
          have hrne : ¬ rs.length = 0 := by omega
          rw [if_neg hrne] at hi
          have hil : i < os.length := by omega
          have hn0 : 0 < n := by omega
          have hol2 := offT_len n os i
          obtain ⟨o, hO⟩ : ∃ o, mkO n (os.getD i of0) = o := ⟨_, rfl⟩
          obtain ⟨l, hL⟩ : ∃ l, offT n os i = l := ⟨_, rfl⟩
          replace hq := And.intro hq (hil)
          refine tr_skip ?_
          (try simp only [thenE, inBlkE])
          refine hK14 _ ?_
          refine tr_seq fun K16 hK16 => ?_
          refine tr_block ?_
          refine tr_seq fun K17 hK17 => ?_
          refine tr_draw [78, 79, 84, 85, 89, 93, 94, 100, 101, 3000004] [2, 3, 4, 10, 11, 15, 16] mixed rfl (by kernel_rfl) rfl fun K hK => ?_
          iterate 5 refine evD_p ?_
          refine evD_c (hc := (c37 _ 6 (by omega))) (k := ?_)
          iterate 8 refine evD_p ?_
          refine evD_c (hc := (c37 _ (n : Int) (by omega))) (k := ?_)
          iterate 5 refine evD_p ?_
          refine evD_c (hc := (c37 _ 40 (by omega))) (k := ?_)
          iterate 6 refine evD_p ?_
          refine evD_c (hc := (c37 _ 100 (by omega))) (k := ?_)
          iterate 3 refine evD_p ?_
          refine evD_e hK ?_; clear hK K
          refine hK17 _ ?_
          refine tr_seq fun K18 hK18 => ?_
          refine tr_region [2, 3, 4, 10, 11, 15, 16, 17] rfl rfl fun K hK => ?_
          refine evR_p ?_
          refine evR_e hK ?_; clear hK K
          refine hK18 _ ?_
          refine tr_seq fun K19 hK19 => ?_
          refine tr_block ?_
          -- loop 3: live [2, 3, 4, 10, 11, 15, 16, 17]
          refine tr_loopW (fun m σ => ∃ k : Nat, k + m = (offT n os i).length ∧ (∀ j, j < k → ofLt ((offT n os i).getD j of0) (mkO n (os.getD i of0)) = true) ∧ σ = ⟨[(2, .sl 4 (encOfs os)), (3, .int .i64 ap), (4, .int .i64 mu), (10, .ptr 0 0), (11, .ptr 1 0), (15, .int .i64 (i : Nat)), (16, .ptr 4 0), (17, .int .i64 (k : Nat))], [(4, .cells (encOf (mkO n (os.getD i of0)))), (1, .cells [.sl 2 (encSps (mkR rs (pickW fr 3600) n).2), .sl 4 (encOfs (offT n os i)), .nsl, .nsl]), (0, .cells [.nsl, .nsl, .nsl, .nsl])], 5⟩) ((offT n os i).length) ?_ ?_
          · exact ⟨_, Wk.refl _, 0, by omega, (by intro j hj; omega), rfl⟩
          · rintro m3 σ ⟨k, hk, hpk, rfl⟩ KL3 hKL3
            refine tr_seq fun K20 hK20 => ?_
            refine tr_seq fun K21 hK21 => ?_
            refine tr_draw [] [2, 3, 4, 10, 11, 15, 16, 17, 142] mixed rfl (by kernel_rfl) rfl fun K hK => ?_
            iterate 6 refine evD_p ?_
            iterate 31 refine evD_g ?_
            refine evD_p ?_
            refine evD_e hK ?_; clear hK K
            refine hK21 _ ?_
            refine tr_condB (fun ht3 => ?_) (fun ht3 => ?_)
            · skip
              have hkl : k < (offT n os i).length := by omega
              replace hq := And.intro hq (hkl)
              refine tr_skip ?_
              (try simp only [thenE, inBlkE])
              refine hK20 _ ?_
              refine tr_block ?_
              refine tr_region [2, 3, 4, 10, 11, 15, 16, 17] rfl rfl fun K hK => ?_
              iterate 3 refine evR_p ?_
              refine evR_e hK ?_; clear hK K
              refine hKL3 _ ?_
              exact ⟨m3 - 1, _, by omega, Wk.refl _, k + 1, by omega, off_step hpk (ofLt_iff.2 (by omega)), by rw [w64 (x := (k : Int) + 1) (by omega)]; rfl⟩
            · skip
              have hp4 : posO (mkO n (os.getD i of0)) (offT n os i) = k := posO_at (by omega) hpk (fun hkl2 => by rw [Bool.eq_false_iff, ne_eq, ofLt_iff]; omega)
              refine tr_exit ?_
              simp only [thenE, inBlkE, Nat.reduceEqDiff, ↓reduceIte]
              refine hK19 _ ?_
              refine tr_seq fun K22 hK22 => ?_
              refine tr_seq fun K23 hK23 => ?_
              refine tr_draw [] [2, 3, 4, 10, 11, 15, 16, 17, 171] mixed rfl (by kernel_rfl) rfl fun K hK => ?_
              iterate 6 refine evD_p ?_
              iterate 9 refine evD_g ?_
              iterate 2 refine evD_p ?_
              iterate 9 refine evD_g ?_
              refine evD_p ?_
              refine evD_e hK ?_; clear hK K
              refine hK23 _ ?_
              refine tr_condB (fun ht4 => ?_) (fun ht4 => ?_)
              · skip
                refine tr_exit ?_
                simp only [thenE, inBlkE, Nat.reduceEqDiff, ↓reduceIte]
                refine hK16 _ ?_
                refine tr_region [2, 3, 4, 10, 11, 15] rfl rfl fun K hK => ?_
                iterate 3 refine evR_p ?_
                refine evR_e hK ?_; clear hK K
                refine hKL2 _ ?_
                first | exact ⟨m2 - 1, _, by omega, Wk.cut 4 rfl, i + 1, by rw [if_neg hrne]; omega, by rw [w64 (x := (i : Int) + 1) (by omega), off_same hp4 (by omega)]; rfl⟩ | exact ⟨m2 - 1, _, by omega, Wk.cut 4 rfl, i + 1, by rw [if_neg hrne]; omega, by rw [w64 (x := (i : Int) + 1) (by omega), off_new hp4 (by omega), encOfs_ins]; rfl⟩
              · skip
                refine tr_skip ?_
                (try simp only [thenE, inBlkE])
                refine hK22 _ ?_
                refine tr_draw [178, 183, 184] [2, 3, 4, 10, 11, 15] mixed rfl (by kernel_rfl) rfl fun K hK => ?_
                iterate 6 refine evD_p ?_
                refine evD_bc ?_
                iterate 8 refine evD_p ?_
                refine evD_e hK ?_; clear hK K
                refine hK16 _ ?_
                refine tr_region [2, 3, 4, 10, 11, 15] rfl rfl fun K hK => ?_
                iterate 3 refine evR_p ?_
                refine evR_e hK ?_; clear hK K
                refine hKL2 _ ?_
                first | exact ⟨m2 - 1, _, by omega, Wk.cut 4 rfl, i + 1, by rw [if_neg hrne]; omega, by rw [w64 (x := (i : Int) + 1) (by omega), off_same hp4 (by omega)]; rfl⟩ | exact ⟨m2 - 1, _, by omega, Wk.cut 4 rfl, i + 1, by rw [if_neg hrne]; omega, by rw [w64 (x := (i : Int) + 1) (by omega), off_new hp4 (by omega), encOfs_ins]; rfl⟩
        · skip
          have hil : offT n os i = (if rs.length = 0 then [] else offT n os (min os.length 8)) := off_end hi (by split <;> omega)
          rw [hil]
          refine tr_exit ?_
          simp only [thenE, inBlkE, Nat.reduceEqDiff, ↓reduceIte]
          refine hK12 _ ?_
          refine tr_seq fun K24 hK24 => ?_
          refine tr_region [3, 4, 10, 11, 18] rfl rfl fun K hK => ?_
          refine evR_p ?_
          refine evR_e hK ?_; clear hK K
          refine hK24 _ ?_
          refine tr_seq fun K25 hK25 => ?_
          refine tr_seq fun K26 hK26 => ?_
          refine tr_region [3, 4, 10, 11, 18, 19] rfl rfl fun K hK => ?_
          refine evR_p ?_
          refine evR_e hK ?_; clear hK K
          refine hK26 _ ?_
          refine tr_block ?_
          -- loop 4: live [3, 4, 10, 11, 18, 19]
          refine tr_loopW (fun m σ => ∃ a : Nat, a + m = 6 ∧ σ = ⟨[(3, .int .i64 ap), (4, .int .i64 mu), (10, .ptr 0 0), (11, .ptr 1 0), (18, .int .i64 (ixA a : Nat)), (19, .int .i64 (a : Nat))], [(4, .row 95 2 (encP2s (apT (pickW ap 32768) (ixA a)))), (1, .cells [.sl 2 (encSps (mkR rs (pickW fr 3600) n).2), .sl 4 (encOfs (if rs.length = 0 then [] else offT n os (min os.length 8))), .own 4, .nsl]), (0, .cells [.nsl, .nsl, .nsl, .nsl])], 5⟩) (6) ?_ ?_
          · exact ⟨_, Wk.nilown 95 2 1 2 rfl (Nat.le_of_ble_eq_true rfl) rfl, 0, by omega, rfl⟩
          · rintro m4 σ ⟨a, ha, rfl⟩ KL4 hKL4
            refine tr_seq fun K27 hK27 => ?_
            refine tr_seq fun K28 hK28 => ?_
            refine tr_region [3, 4, 10, 11, 18, 19, 187] rfl rfl fun K hK => ?_
            iterate 2 refine evR_p ?_
            refine evR_e hK ?_; clear hK K
            refine hK28 _ ?_
            refine tr_condB (fun ht5 => ?_) (fun ht5 => ?_)
            · skip
              have hal : a < 6 := by omega
              have hix := ixA_s hal
              replace hq := And.intro hq (hal)
              refine tr_skip ?_
              (try simp only [thenE, inBlkE])
              refine hK27 _ ?_
              refine tr_seq fun K29 hK29 => ?_
              refine tr_block ?_
              refine tr_seq fun K30 hK30 => ?_
              refine tr_region [3, 4, 10, 11, 18, 19, 20] rfl rfl fun K hK => ?_
              iterate 3 refine evR_p ?_
              refine evR_e hK ?_; clear hK K
              refine hK30 _ ?_
              refine tr_block ?_
              -- loop 5: live [3, 4, 10, 11, 18, 19, 20]
              refine tr_loopW (fun m σ => ∃ b : Nat, a < b ∧ b + m = 6 ∧ σ = ⟨[(3, .int .i64 ap), (4, .int .i64 mu), (10, .ptr 0 0), (11, .ptr 1 0), (18, .int .i64 ((ixA a + (b - a - 1) : Nat) : Int)), (19, .int .i64 (a : Nat)), (20, .int .i64 (b : Nat))], [(4, .row 95 2 (encP2s (apT (pickW ap 32768) (ixA a + (b - a - 1))))), (1, .cells [.sl 2 (encSps (mkR rs (pickW fr 3600) n).2), .sl 4 (encOfs (if rs.length = 0 then [] else offT n os (min os.length 8))), .own 4, .nsl]), (0, .cells [.nsl, .nsl, .nsl, .nsl])], 5⟩) (5 - a) ?_ ?_
              · exact ⟨_, Wk.refl _, a + 1, by omega, by omega, by rw [w64 (x := (a : Int) + 1) (by omega), show ixA a + (a + 1 - a - 1) = ixA a by omega]; rfl⟩
              · rintro m5 σ ⟨b, hab, hb, rfl⟩ KL5 hKL5
                refine tr_seq fun K31 hK31 => ?_
                refine tr_seq fun K32 hK32 => ?_
                refine tr_region [3, 4, 10, 11, 18, 19, 20, 193] rfl rfl fun K hK => ?_
                iterate 2 refine evR_p ?_
                refine evR_e hK ?_; clear hK K
                refine hK32 _ ?_
                refine tr_condB (fun ht6 => ?_) (fun ht6 => ?_)
                · skip
                  have hbl : b < 6 := by omega
                  have hpr := prs_at hbl hab
                  have hal2 := apT_len (pickW ap 32768) (ixA a + (b - a - 1))
                  have hbs : ixA a + (b + 1 - a - 1) = ixA a + (b - a - 1) + 1 := by omega
                  have hixl : ixA a + (b - a - 1) < 1000 := by have : ixA a ≤ 30 := ixA_le hal; omega
                  replace hq := And.intro hq (hbl)
                  refine tr_skip ?_
                  (try simp only [thenE, inBlkE])
                  refine hK31 _ ?_
                  refine tr_seq fun K33 hK33 => ?_
                  refine tr_block ?_
                  refine tr_seq fun K34 hK34 => ?_
                  refine tr_seq fun K35 hK35 => ?_
                  refine tr_region [3, 4, 10, 11, 18, 19, 20, 207] rfl rfl fun K hK => ?_
                  refine evR_p ?_
                  refine evR_c (hc := (c37 _ 32768 (by omega))) (k := ?_)
                  iterate 5 refine evR_p ?_
                  iterate 4 refine evR_g ?_
                  refine evR_p ?_
                  refine evR_e hK ?_; clear hK K
                  refine hK35 _ ?_
                  refine tr_condB (fun ht7 => ?_) (fun ht7 => ?_)
                  · skip
                    refine tr_region [3, 4, 10, 11, 18, 19, 20] rfl rfl fun K hK => ?_
                    iterate 5 refine evR_p ?_
                    refine evR_bs ?_
                    iterate 3 refine evR_p ?_
                    refine evR_e hK ?_; clear hK K
                    refine hK34 _ ?_
                    refine tr_region [3, 4, 10, 11, 18, 19, 20] rfl rfl fun K hK => ?_
                    iterate 3 refine evR_p ?_
                    refine evR_e hK ?_; clear hK K
                    refine hK33 _ ?_
                    refine tr_region [3, 4, 10, 11, 18, 19, 20] rfl rfl fun K hK => ?_
                    iterate 3 refine evR_p ?_
                    refine evR_e hK ?_; clear hK K
                    refine hKL5 _ ?_
                    first | exact ⟨m5 - 1, _, by omega, (Wk.trans (Wk.ren 5 4 (Nat.le_of_ble_eq_true rfl) (Nat.le_of_ble_eq_true rfl) rfl) (Wk.cut 5 rfl)), b + 1, by omega, by omega, by rw [w64 (x := (b : Int) + 1) (by omega), w64 (x := ((ixA a + (b - a - 1) : Nat) : Int) + 1) (by omega), hbs, apT_t ht7.1 ht7.2, hpr, encP2s_snoc]; rfl⟩ | exact ⟨m5 - 1, _, by omega, Wk.cut 5 rfl, b + 1, by omega, by omega, by rw [w64 (x := (b : Int) + 1) (by omega), w64 (x := ((ixA a + (b - a - 1) : Nat) : Int) + 1) (by omega), hbs, apT_f ht7]; rfl⟩
                  · skip
                    refine tr_skip ?_
                    (try simp only [thenE, inBlkE])
                    refine hK34 _ ?_
                    refine tr_region [3, 4, 10, 11, 18, 19, 20] rfl rfl fun K hK => ?_
                    iterate 3 refine evR_p ?_
                    refine evR_e hK ?_; clear hK K
                    refine hK33 _ ?_
                    refine tr_region [3, 4, 10, 11, 18, 19, 20] rfl rfl fun K hK => ?_
                    iterate 3 refine evR_p ?_
                    refine evR_e hK ?_; clear hK K
                    refine hKL5 _ ?_
                    first | exact ⟨m5 - 1, _, by omega, (Wk.trans (Wk.ren 5 4 (Nat.le_of_ble_eq_true rfl) (Nat.le_of_ble_eq_true rfl) rfl) (Wk.cut 5 rfl)), b + 1, by omega, by omega, by rw [w64 (x := (b : Int) + 1) (by omega), w64 (x := ((ixA a + (b - a - 1) : Nat) : Int) + 1) (by omega), hbs, apT_t ht7.1 ht7.2, hpr, encP2s_snoc]; rfl⟩ | exact ⟨m5 - 1, _, by omega, Wk.cut 5 rfl, b + 1, by omega, by omega, by rw [w64 (x := (b : Int) + 1) (by omega), w64 (x := ((ixA a + (b - a - 1) : Nat) : Int) + 1) (by omega), hbs, apT_f ht7]; rfl⟩
                · skip
                  have hbl : b = 6 := by omega
                  subst hbl
                  have hbe : 6 - a - 1 = 5 - a := by omega
                  rw [hbe]
                  refine tr_exit ?_
                  simp only [thenE, inBlkE, Nat.reduceEqDiff, ↓reduceIte]
                  refine hK29 _ ?_
                  refine tr_region [3, 4, 10, 11, 18, 19] rfl rfl fun K hK => ?_
                  iterate 3 refine evR_p ?_
                  refine evR_e hK ?_; clear hK K
                  refine hKL4 _ ?_
                  exact ⟨m4 - 1, _, by omega, Wk.cut 5 rfl, a + 1, by omega, by rw [w64 (x := (a : Int) + 1) (by omega), hix]; rfl⟩
            · skip
              have hal : a = 6 := by omega
              subst hal
              refine tr_exit ?_
              simp only [thenE, inBlkE, Nat.reduceEqDiff, ↓reduceIte]
              refine hK25 _ ?_
              refine tr_seq fun K36 hK36 => ?_
              refine tr_seq fun K37 hK37 => ?_
              refine tr_region [4, 10, 11, 21] rfl rfl fun K hK => ?_
              refine evR_p ?_
              refine evR_e hK ?_; clear hK K
              refine hK37 _ ?_
              refine tr_block ?_
              -- loop 6: live [4, 10, 11, 21]
              refine tr_loopW (fun m σ => ∃ a : Nat, a + m = 6 ∧ σ = ⟨[(4, .int .i64 mu), (10, .ptr 0 0), (11, .ptr 1 0), (21, .int .i64 (a : Nat))], [(5, .row 3 1 (encI (muT (pickW mu 64) a))), (4, .row 95 2 (encP2s (apT (pickW ap 32768) 15))), (1, .cells [.sl 2 (encSps (mkR rs (pickW fr 3600) n).2), .sl 4 (encOfs (if rs.length = 0 then [] else offT n os (min os.length 8))), .own 4, .own 5]), (0, .cells [.nsl, .nsl, .nsl, .nsl])], 6⟩) (6) ?_ ?_
              · exact ⟨_, Wk.nilown 3 1 1 3 rfl (Nat.le_of_ble_eq_true rfl) rfl, 0, by omega, rfl⟩
              · rintro m6 σ ⟨a, ha, rfl⟩ KL6 hKL6
                refine tr_seq fun K38 hK38 => ?_
                refine tr_seq fun K39 hK39 => ?_
                refine tr_region [4, 10, 11, 21, 219] rfl rfl fun K hK => ?_
                iterate 2 refine evR_p ?_
                refine evR_e hK ?_; clear hK K
                refine hK39 _ ?_
                refine tr_condB (fun ht8 => ?_) (fun ht8 => ?_)
                · skip
                  have hal : a < 6 := by omega
                  have hml := muT_len (pickW mu 64) a
                  replace hq := And.intro hq (hal)
                  refine tr_skip ?_
                  (try simp only [thenE, inBlkE])
                  refine hK38 _ ?_
                  refine tr_seq fun K40 hK40 => ?_
                  refine tr_block ?_
                  refine tr_seq fun K41 hK41 => ?_
                  refine tr_region [4, 10, 11, 21, 227] rfl rfl fun K hK => ?_
                  refine evR_p ?_
                  refine evR_c (hc := (c37 _ 64 (by omega))) (k := ?_)
                  iterate 4 refine evR_p ?_
                  refine evR_e hK ?_; clear hK K
                  refine hK41 _ ?_
                  refine tr_condB (fun ht9 => ?_) (fun ht9 => ?_)
                  · skip
                    refine tr_region [4, 10, 11, 21] rfl rfl fun K hK => ?_
                    iterate 3 refine evR_p ?_
                    refine evR_bs ?_
                    iterate 3 refine evR_p ?_
                    refine evR_e hK ?_; clear hK K
                    refine hK40 _ ?_
                    refine tr_region [4, 10, 11, 21] rfl rfl fun K hK => ?_
                    iterate 3 refine evR_p ?_
                    refine evR_e hK ?_; clear hK K
                    refine hKL6 _ ?_
                    first | exact ⟨m6 - 1, _, by omega, (Wk.trans (Wk.ren 6 5 (Nat.le_of_ble_eq_true rfl) (Nat.le_of_ble_eq_true rfl) rfl) (Wk.cut 6 rfl)), a + 1, by omega, by rw [w64 (x := (a : Int) + 1) (by omega), muT_t (by assumption), encI_snoc]; rfl⟩ | exact ⟨m6 - 1, _, by omega, Wk.cut 6 rfl, a + 1, by omega, by rw [w64 (x := (a : Int) + 1) (by omega), muT_f (by assumption)]; rfl⟩
                  · skip
                    refine tr_skip ?_
                    (try simp only [thenE, inBlkE])
                    refine hK40 _ ?_
                    refine tr_region [4, 10, 11, 21] rfl rfl fun K hK => ?_
                    iterate 3 refine evR_p ?_
                    refine evR_e hK ?_; clear hK K
                    refine hKL6 _ ?_
                    first | exact ⟨m6 - 1, _, by omega, (Wk.trans (Wk.ren 6 5 (Nat.le_of_ble_eq_true rfl) (Nat.le_of_ble_eq_true rfl) rfl) (Wk.cut 6 rfl)), a + 1, by omega, by rw [w64 (x := (a : Int) + 1) (by omega), muT_t (by assumption), encI_snoc]; rfl⟩ | exact ⟨m6 - 1, _, by omega, Wk.cut 6 rfl, a + 1, by omega, by rw [w64 (x := (a : Int) + 1) (by omega), muT_f (by assumption)]; rfl⟩
                · skip
                  have hal : a = 6 := by omega
                  subst hal
                  refine tr_exit ?_
                  simp only [thenE, inBlkE, Nat.reduceEqDiff, ↓reduceIte]
                  refine hK36 _ ?_
                  refine tr_seq fun K42 hK42 => ?_
                  refine tr_region [10] rfl rfl fun K hK => ?_
                  iterate 2 refine evR_p ?_
                  refine evR_e hK ?_; clear hK K
                  refine hK42 _ ?_
                  refine tr_ret ?_
                  (try simp only [thenE, inBlkE])
                  simp (maxSteps := 4000000) (disch := first | assumption | omega | (simp only [go_sem, *]; done) | (simp only [go_sem, *]; omega)) only [postA, postO, resV1, fzAll, go_sem, hq, Int.reduceToNat, Nat.reduceBEq, Nat.reduceEqDiff, Nat.reduceAdd, Nat.reduceMul, Nat.reduceLeDiff, Nat.reduceLT, Nat.reduceSub, ↓reduceIte, reduceCtorEq]
                  all_goals ((subst hn; rfl))

end Go.Proofs.YtaaongcfeldcoaaDoor


namespace Go.Proofs.YtaaongcfeldcoaaDoor
open Go.RowKit
set_option linter.unusedVariables false
set_option linter.unusedSimpArgs false
set_option maxRecDepth 100000
attribute [local go_sem] Nat.zero_add Nat.add_zero Nat.mul_one eq_self ne_eq not_true_eq_false not_false_eq_true decide_true decide_false decide_not Bool.false_eq_true List.filter_cons List.filter_nil true_and and_true beq_false beq_true Bool.not_true Bool.not_false Bool.and_true Bool.true_and Option.getD_some Option.getD_none imp_self implies_true Int.toNat_natCast List.cons_append List.nil_append List.map_cons List.map_nil List.length_cons List.length_nil List.getD_cons_zero List.getD_cons_succ List.drop_zero List.drop_succ_cons List.take_succ_cons List.take_zero
attribute [local go_sem] lowN lowQ lowM isAl appOwn unw appF isE isO stpO notIn St.bare evO evDO isEff stp St.get St.slot St.put List.lookup un unL ofVal gof nth pickV pkB_false pkB_true binV unV loadV idxV fldV partV buildV fillV lenV sliV appV appR rowsV winV V.parts V.okp V.sc Mem.look_cons Mem.look_nil V.cl V.clL AObj.clo fzAll exps St.fz Mem.fz V.fz V.fzL AObj.fz Option.isSome_some Option.isSome_none Bool.or_true Bool.true_or Bool.or_false Bool.false_or false_and and_false false_or or_false arT_112 arT_22 arT_23 arT_27 arT_28 arT_29 arT_33 arT_52 arT_57 arT_65 arT_76 arT_77 arT_84 arT_88 arT_9 arT_95 boolT_133 boolT_29 boolT_3 boolT_36 boolT_4 boolT_70 boolT_92 flatT_133 flatT_29 flatT_3 flatT_36 flatT_4 flatT_70 flatT_92 intT_121 intT_142 intT_144 intT_145 intT_3 intT_5 lay_110 lay_145 lay_22 lay_23 lay_25 lay_27 lay_28 lay_29 lay_3 lay_31 lay_33 lay_35 lay_4 lay_42 lay_51 lay_56 lay_57 lay_59 lay_70 lay_73 lay_77 lay_79 lay_81 lay_83 lay_84 lay_85 lay_88 lay_92 lay_94 lay_95 okF_10 okF_100 okF_101 okF_102 okF_103 okF_104 okF_105 okF_11 okF_12 okF_122 okF_123 okF_124 okF_125 okF_126 okF_127 okF_13 okF_14 okF_15 okF_16 okF_17 okF_18 okF_19 okF_20 okF_21 okF_22 okF_23 okF_24 okF_25 okF_26 okF_27 okF_28 okF_29 okF_3 okF_30 okF_31 okF_32 okF_33 okF_34 okF_35 okF_36 okF_37 okF_38 okF_39 okF_4 okF_40 okF_41 okF_42 okF_43 okF_44 okF_45 okF_46 okF_47 okF_48 okF_49 okF_5 okF_50 okF_51 okF_52 okF_53 okF_54 okF_55 okF_56 okF_57 okF_58 okF_59 okF_6 okF_60 okF_61 okF_62 okF_63 okF_64 okF_65 okF_66 okF_67 okF_68 okF_69 okF_7 okF_70 okF_71 okF_72 okF_73 okF_74 okF_75 okF_76 okF_77 okF_78 okF_79 okF_8 okF_80 okF_81 okF_82 okF_83 okF_84 okF_85 okF_86 okF_87 okF_88 okF_89 okF_9 okF_90 okF_91 okF_92 okF_93 okF_94 okF_95 okF_96 okF_97 okF_98 okF_99 plT_31 plT_35 plT_51 plT_56 plT_59 plT_70 plT_73 plT_90 plT_92 plT_95 slT_112 slT_22 slT_23 slT_27 slT_28 slT_29 slT_33 slT_52 slT_57 slT_65 slT_76 slT_77 slT_88 slT_95 stT_25_0 stT_25_1 stT_25_2 stT_25_3 stT_25_4 stT_31_0 stT_31_1 stT_31_2 stT_31_3 stT_35_0 stT_35_1 stT_35_2 stT_35_3 stT_51_0 stT_51_1 stT_56_0 stT_56_1 stT_56_2 stT_56_3 stT_59_0 stT_59_1 stT_59_2 stT_73_0 stT_73_3 stT_73_4 stT_73_5 stT_79_0 stT_79_1 stT_79_2 stT_83_0 stT_90_0 stT_90_1 stT_90_2 stT_90_3 strT_76 strT_77 strT_84 strT_9 zeroT_112 zeroT_145 zeroT_3 zeroT_31 zeroT_33 zeroT_35 zeroT_42 zeroT_51 zeroT_56 zeroT_57 zeroT_59 zeroT_70 zeroT_73 zeroT_79 zeroT_83 zeroT_90 zeroT_92 zeroT_95
attribute [local go_sem] List.getElem?_cons_zero List.getElem?_cons_succ List.zip_cons_cons List.zip_nil_left List.zip_nil_right Bool.false_and Bool.and_false List.length_append List.length_set List.length_replicate List.all_cons List.all_nil encI_length encI_getD encR_length encR_getD encRw encPg spl shp AObj.shp rowM isSt isRpS isRd csh AObj.csh forall_const imp_self
attribute [local go_sem] encHr encOf encSp encP2 encSps_length encOfs_length encP2s_length encSps_getD encOfs_getD encP2s_getD
attribute [local simp] encI_length encR_length cellsI_length encSps_length encOfs_length encP2s_length
theorem k11 (h : Hr) (hol : h.offers.length ≤ 12) (s : Int) : CallsA Tryd.prog 11 [.agg (encHr h), .int .i64 s] (.int .i64 (choW h s)) := by
  have hsh := shl1 (n := h.offers.length) (by omega)
  have hpp := Nat.two_pow_pos h.offers.length
  have hq := hsh
  refine callsA_of_tr Tryd.func11 rfl (Nat.le_of_ble_eq_true rfl) ?_
  simp only [Tryd.results11, envOf, Nat.reduceAdd]
  refine tr_seq fun K1 hK1 => ?_
  refine tr_region [1, 2] rfl rfl fun K hK => ?_
  iterate 2 refine evR_p ?_
  refine evR_e hK ?_; clear hK K
  refine hK1 _ ?_
  refine tr_seq fun K2 hK2 => ?_
  refine tr_region [4] rfl rfl fun K hK => ?_
  iterate 5 refine evR_p ?_
  refine evR_c (hc := (c12 s ((2 ^ h.offers.length : Nat) : Int) (by omega))) (k := ?_)
  refine evR_p ?_
  refine evR_e hK ?_; clear hK K
  refine hK2 _ ?_
  refine tr_ret ?_
  (try simp only [thenE, inBlkE])
  simp (maxSteps := 4000000) (disch := first | assumption | omega | (simp only [go_sem, *]; done) | (simp only [go_sem, *]; omega)) only [postA, postO, resV1, fzAll, go_sem, hq, Int.reduceToNat, Nat.reduceBEq, Nat.reduceEqDiff, Nat.reduceAdd, Nat.reduceMul, Nat.reduceLeDiff, Nat.reduceLT, Nat.reduceSub, ↓reduceIte, reduceCtorEq]
  all_goals (rfl)

theorem k13 (h : Hr) (hol : h.offers.length ≤ 12) (s : Int) : CallsA Tryd.prog 13 [.agg (encHr h), .int .i64 s] (.int .i64 (gnT h s h.offers.length)) := by
  have hq : True := trivial
  refine callsA_of_tr Tryd.func13 rfl (Nat.le_of_ble_eq_true rfl) ?_
  simp only [Tryd.results13, envOf, Nat.reduceAdd]
  refine tr_seq fun K1 hK1 => ?_
  refine tr_region [1, 2] rfl rfl fun K hK => ?_
  iterate 2 refine evR_p ?_
  refine evR_e hK ?_; clear hK K
  refine hK1 _ ?_
  refine tr_seq fun K2 hK2 => ?_
  refine tr_region [1, 2, 5] rfl rfl fun K hK => ?_
  refine evR_p ?_
  refine evR_e hK ?_; clear hK K
  refine hK2 _ ?_
  refine tr_seq fun K3 hK3 => ?_
  refine tr_seq fun K4 hK4 => ?_
  refine tr_region [1, 2, 5, 6] rfl rfl fun K hK => ?_
  refine evR_p ?_
  refine evR_e hK ?_; clear hK K
  refine hK4 _ ?_
  refine tr_block ?_
  -- loop 1: live [1, 2, 5, 6]
  refine tr_loopW (fun m σ => ∃ i : Nat, i + m = h.offers.length ∧ σ = ⟨[(1, .int .i64 s), (2, .ptr 0 0), (5, .int .i64 (gnT h s i)), (6, .int .i64 (i : Nat))], [(0, .cells (encHr h))], 1⟩) (h.offers.length) ?_ ?_
  · exact ⟨_, Wk.refl _, 0, by omega, rfl⟩
  · rintro m σ ⟨i, hi, rfl⟩ KL1 hKL1
    refine tr_seq fun K5 hK5 => ?_
    refine tr_seq fun K6 hK6 => ?_
    refine tr_region [1, 2, 5, 6, 11] rfl rfl fun K hK => ?_
    iterate 5 refine evR_p ?_
    refine evR_e hK ?_; clear hK K
    refine hK6 _ ?_
    refine tr_condB (fun ht1 => ?_) (fun ht1 => ?_)
    · skip
      have hil : i < h.offers.length := by omega
      replace hq := And.intro hq (hil)
      refine tr_skip ?_
      (try simp only [thenE, inBlkE])
      refine hK5 _ ?_
      refine tr_seq fun K7 hK7 => ?_
      refine tr_block ?_
      refine tr_seq fun K8 hK8 => ?_
      refine tr_region [1, 2, 5, 6, 18] rfl rfl fun K hK => ?_
      iterate 5 refine evR_p ?_
      refine evR_e hK ?_; clear hK K
      refine hK8 _ ?_
      refine tr_condB (fun ht2 => ?_) (fun ht2 => ?_)
      · skip
        refine tr_region [1, 2, 5, 6] rfl rfl fun K hK => ?_
        iterate 9 refine evR_p ?_
        refine evR_e hK ?_; clear hK K
        refine hK7 _ ?_
        refine tr_region [1, 2, 5, 6] rfl rfl fun K hK => ?_
        iterate 3 refine evR_p ?_
        refine evR_e hK ?_; clear hK K
        refine hKL1 _ ?_
        first | exact ⟨m - 1, _, by omega, Wk.refl _, i + 1, by omega, by rw [w64 (x := (i : Int) + 1) (by omega), gnT_t ht2]; rfl⟩ | exact ⟨m - 1, _, by omega, Wk.refl _, i + 1, by omega, by rw [w64 (x := (i : Int) + 1) (by omega), gnT_f ht2]; rfl⟩
      · skip
        refine tr_skip ?_
        (try simp only [thenE, inBlkE])
        refine hK7 _ ?_
        refine tr_region [1, 2, 5, 6] rfl rfl fun K hK => ?_
        iterate 3 refine evR_p ?_
        refine evR_e hK ?_; clear hK K
        refine hKL1 _ ?_
        first | exact ⟨m - 1, _, by omega, Wk.refl _, i + 1, by omega, by rw [w64 (x := (i : Int) + 1) (by omega), gnT_t ht2]; rfl⟩ | exact ⟨m - 1, _, by omega, Wk.refl _, i + 1, by omega, by rw [w64 (x := (i : Int) + 1) (by omega), gnT_f ht2]; rfl⟩
    · skip
      have hil : i = h.offers.length := by omega
      subst hil
      refine tr_exit ?_
      simp only [thenE, inBlkE, Nat.reduceEqDiff, ↓reduceIte]
      refine hK3 _ ?_
      refine tr_seq fun K9 hK9 => ?_
      refine tr_region [4] rfl rfl fun K hK => ?_
      iterate 2 refine evR_p ?_
      refine evR_e hK ?_; clear hK K
      refine hK9 _ ?_
      refine tr_ret ?_
      (try simp only [thenE, inBlkE])
      simp (maxSteps := 4000000) (disch := first | assumption | omega | (simp only [go_sem, *]; done) | (simp only [go_sem, *]; omega)) only [postA, postO, resV1, fzAll, go_sem, hq, Int.reduceToNat, Nat.reduceBEq, Nat.reduceEqDiff, Nat.reduceAdd, Nat.reduceMul, Nat.reduceLeDiff, Nat.reduceLT, Nat.reduceSub, ↓reduceIte, reduceCtorEq]
      all_goals (rfl)

set_option maxHeartbeats 2000000 in
theorem k16 (h : Hr) (hv : validH h = true) (n : Int) : CallsA Tryd.prog 16 [.agg (encHr h), .int .i64 n] (.agg (encHr (withH h n))) := by
  have hml := (validH_all hv).ml
  have hq : True := trivial
  refine callsA_of_tr Tryd.func16 rfl (Nat.le_of_ble_eq_true rfl) ?_
  simp only [Tryd.results16, envOf, Nat.reduceAdd]
  refine tr_seq fun K1 hK1 => ?_
  refine tr_region [1, 2, 4] rfl rfl fun K hK => ?_
  iterate 2 refine evR_p ?_
  refine evR_e hK ?_; clear hK K
  refine hK1 _ ?_
  refine tr_seq fun K2 hK2 => ?_
  refine tr_region [1, 2, 4, 5] rfl rfl fun K hK => ?_
  refine evR_p ?_
  refine evR_e hK ?_; clear hK K
  refine hK2 _ ?_
  refine tr_seq fun K3 hK3 => ?_
  refine tr_region [1, 2, 4, 5, 6] rfl rfl fun K hK => ?_
  refine evR_p ?_
  refine evR_e hK ?_; clear hK K
  refine hK3 _ ?_
  refine tr_seq fun K4 hK4 => ?_
  refine tr_seq fun K5 hK5 => ?_
  refine tr_region [1, 2, 4, 5, 6, 7] rfl rfl fun K hK => ?_
  refine evR_p ?_
  refine evR_e hK ?_; clear hK K
  refine hK5 _ ?_
  refine tr_block ?_
  -- loop 1: live [1, 2, 4, 5, 6, 7]
  refine tr_loopW (fun m σ => ∃ i : Nat, i + m = h.must.length ∧ σ = ⟨[(1, .int .i64 n), (2, .ptr 0 0), (4, .ptr 1 0), (5, .own 2), (6, .bool (wthT h.must n i).1), (7, .int .i64 (i : Nat))], [(2, .row 3 1 (encI (wthT h.must n i).2)), (1, .cells [.nsl, .nsl, .nsl, .nsl]), (0, .cells (encHr h))], 3⟩) (h.must.length) ?_ ?_
  · exact ⟨_, Wk.nilslot 3 1 5 rfl, 0, by omega, rfl⟩
  · rintro m σ ⟨i, hi, rfl⟩ KL1 hKL1
    refine tr_seq fun K6 hK6 => ?_
    refine tr_seq fun K7 hK7 => ?_
    refine tr_region [1, 2, 4, 5, 6, 7, 12] rfl rfl fun K hK => ?_
    iterate 5 refine evR_p ?_
    refine evR_e hK ?_; clear hK K
    refine hK7 _ ?_
    refine tr_condB (fun ht1 => ?_) (fun ht1 => ?_)
    · skip
      have hil : i < h.must.length := by omega
      have hwl := wthT_len h.must n i
      replace hq := And.intro hq (hil)
      refine tr_skip ?_
      (try simp only [thenE, inBlkE])
      refine hK6 _ ?_
      refine tr_seq fun K8 hK8 => ?_
      refine tr_block ?_
      refine tr_seq fun K9 hK9 => ?_
      refine tr_seq fun K10 hK10 => ?_
      refine tr_region [1, 2, 4, 5, 6, 7, 25] rfl rfl fun K hK => ?_
      iterate 3 refine evR_p ?_
      iterate 7 refine evR_g ?_
      refine evR_p ?_
      refine evR_e hK ?_; clear hK K
      refine hK10 _ ?_
      refine tr_condB (fun ht2 => ?_) (fun ht2 => ?_)
      · skip
        refine tr_seq fun K11 hK11 => ?_
        refine tr_region [1, 2, 4, 5, 7] rfl rfl fun K hK => ?_
        iterate 2 refine evR_p ?_
        refine evR_bs ?_
        iterate 2 refine evR_p ?_
        refine evR_e hK ?_; clear hK K
        refine hK11 _ ?_
        refine tr_region [1, 2, 4, 5, 6, 7] rfl rfl fun K hK => ?_
        refine evR_p ?_
        refine evR_e hK ?_; clear hK K
        refine hK9 _ ?_
        refine tr_seq fun K12 hK12 => ?_
        refine tr_region [1, 2, 4, 5, 6, 7, 36] rfl rfl fun K hK => ?_
        iterate 7 refine evR_p ?_
        refine evR_e hK ?_; clear hK K
        refine hK12 _ ?_
        refine tr_condB (fun ht3 => ?_) (fun ht3 => ?_)
        · skip
          refine tr_region [1, 2, 4, 5, 6, 7] rfl rfl fun K hK => ?_
          iterate 6 refine evR_p ?_
          refine evR_bs ?_
          iterate 2 refine evR_p ?_
          refine evR_e hK ?_; clear hK K
          refine hK8 _ ?_
          refine tr_region [1, 2, 4, 5, 6, 7] rfl rfl fun K hK => ?_
          iterate 3 refine evR_p ?_
          refine evR_e hK ?_; clear hK K
          refine hKL1 _ ?_
          first | exact ⟨m - 1, _, by omega, (Wk.trans (Wk.ren 4 2 (Nat.le_of_ble_eq_true rfl) (Nat.le_of_ble_eq_true rfl) rfl) (Wk.cut 3 rfl)), i + 1, by omega, by rw [w64 (x := (i : Int) + 1) (by omega), wth_tt ht2 ht3, ← encI_one, ← encI_one]; rfl⟩ | exact ⟨m - 1, _, by omega, (Wk.trans (Wk.ren 3 2 (Nat.le_of_ble_eq_true rfl) (Nat.le_of_ble_eq_true rfl) rfl) (Wk.cut 3 rfl)), i + 1, by omega, by rw [w64 (x := (i : Int) + 1) (by omega), wth_tf ht2 ht3, ← encI_one]; rfl⟩ | exact ⟨m - 1, _, by omega, (Wk.trans (Wk.ren 3 2 (Nat.le_of_ble_eq_true rfl) (Nat.le_of_ble_eq_true rfl) rfl) (Wk.cut 3 rfl)), i + 1, by omega, by rw [w64 (x := (i : Int) + 1) (by omega), wth_ft ht2 ht4, ← encI_one]; rfl⟩ | exact ⟨m - 1, _, by omega, Wk.cut 3 rfl, i + 1, by omega, by rw [w64 (x := (i : Int) + 1) (by omega), wth_ff ht2 ht4]; rfl⟩
        · skip
          refine tr_skip ?_
          (try simp only [thenE, inBlkE])
          refine hK8 _ ?_
          refine tr_region [1, 2, 4, 5, 6, 7] rfl rfl fun K hK => ?_
          iterate 3 refine evR_p ?_
          refine evR_e hK ?_; clear hK K
          refine hKL1 _ ?_
          first | exact ⟨m - 1, _, by omega, (Wk.trans (Wk.ren 4 2 (Nat.le_of_ble_eq_true rfl) (Nat.le_of_ble_eq_true rfl) rfl) (Wk.cut 3 rfl)), i + 1, by omega, by rw [w64 (x := (i : Int) + 1) (by omega), wth_tt ht2 ht3, ← encI_one, ← encI_one]; rfl⟩ | exact ⟨m - 1, _, by omega, (Wk.trans (Wk.ren 3 2 (Nat.le_of_ble_eq_true rfl) (Nat.le_of_ble_eq_true rfl) rfl) (Wk.cut 3 rfl)), i + 1, by omega, by rw [w64 (x := (i : Int) + 1) (by omega), wth_tf ht2 ht3, ← encI_one]; rfl⟩ | exact ⟨m - 1, _, by omega, (Wk.trans (Wk.ren 3 2 (Nat.le_of_ble_eq_true rfl) (Nat.le_of_ble_eq_true rfl) rfl) (Wk.cut 3 rfl)), i + 1, by omega, by rw [w64 (x := (i : Int) + 1) (by omega), wth_ft ht2 ht4, ← encI_one]; rfl⟩ | exact ⟨m - 1, _, by omega, Wk.cut 3 rfl, i + 1, by omega, by rw [w64 (x := (i : Int) + 1) (by omega), wth_ff ht2 ht4]; rfl⟩
      · skip
        refine tr_skip ?_
        (try simp only [thenE, inBlkE])
        refine hK9 _ ?_
        refine tr_seq fun K13 hK13 => ?_
        refine tr_region [1, 2, 4, 5, 6, 7, 36] rfl rfl fun K hK => ?_
        iterate 7 refine evR_p ?_
        refine evR_e hK ?_; clear hK K
        refine hK13 _ ?_
        refine tr_condB (fun ht4 => ?_) (fun ht4 => ?_)
        · skip
          refine tr_region [1, 2, 4, 5, 6, 7] rfl rfl fun K hK => ?_
          iterate 6 refine evR_p ?_
          refine evR_bs ?_
          iterate 2 refine evR_p ?_
          refine evR_e hK ?_; clear hK K
          refine hK8 _ ?_
          refine tr_region [1, 2, 4, 5, 6, 7] rfl rfl fun K hK => ?_
          iterate 3 refine evR_p ?_
          refine evR_e hK ?_; clear hK K
          refine hKL1 _ ?_
          first | exact ⟨m - 1, _, by omega, (Wk.trans (Wk.ren 4 2 (Nat.le_of_ble_eq_true rfl) (Nat.le_of_ble_eq_true rfl) rfl) (Wk.cut 3 rfl)), i + 1, by omega, by rw [w64 (x := (i : Int) + 1) (by omega), wth_tt ht2 ht3, ← encI_one, ← encI_one]; rfl⟩ | exact ⟨m - 1, _, by omega, (Wk.trans (Wk.ren 3 2 (Nat.le_of_ble_eq_true rfl) (Nat.le_of_ble_eq_true rfl) rfl) (Wk.cut 3 rfl)), i + 1, by omega, by rw [w64 (x := (i : Int) + 1) (by omega), wth_tf ht2 ht3, ← encI_one]; rfl⟩ | exact ⟨m - 1, _, by omega, (Wk.trans (Wk.ren 3 2 (Nat.le_of_ble_eq_true rfl) (Nat.le_of_ble_eq_true rfl) rfl) (Wk.cut 3 rfl)), i + 1, by omega, by rw [w64 (x := (i : Int) + 1) (by omega), wth_ft ht2 ht4, ← encI_one]; rfl⟩ | exact ⟨m - 1, _, by omega, Wk.cut 3 rfl, i + 1, by omega, by rw [w64 (x := (i : Int) + 1) (by omega), wth_ff ht2 ht4]; rfl⟩
        · skip
          refine tr_skip ?_
          (try simp only [thenE, inBlkE])
          refine hK8 _ ?_
          refine tr_region [1, 2, 4, 5, 6, 7] rfl rfl fun K hK => ?_
          iterate 3 refine evR_p ?_
          refine evR_e hK ?_; clear hK K
          refine hKL1 _ ?_
          first | exact ⟨m - 1, _, by omega, (Wk.trans (Wk.ren 4 2 (Nat.le_of_ble_eq_true rfl) (Nat.le_of_ble_eq_true rfl) rfl) (Wk.cut 3 rfl)), i + 1, by omega, by rw [w64 (x := (i : Int) + 1) (by omega), wth_tt ht2 ht3, ← encI_one, ← encI_one]; rfl⟩ | exact ⟨m - 1, _, by omega, (Wk.trans (Wk.ren 3 2 (Nat.le_of_ble_eq_true rfl) (Nat.le_of_ble_eq_true rfl) rfl) (Wk.cut 3 rfl)), i + 1, by omega, by rw [w64 (x := (i : Int) + 1) (by omega), wth_tf ht2 ht3, ← encI_one]; rfl⟩ | exact ⟨m - 1, _, by omega, (Wk.trans (Wk.ren 3 2 (Nat.le_of_ble_eq_true rfl) (Nat.le_of_ble_eq_true rfl) rfl) (Wk.cut 3 rfl)), i + 1, by omega, by rw [w64 (x := (i : Int) + 1) (by omega), wth_ft ht2 ht4, ← encI_one]; rfl⟩ | exact ⟨m - 1, _, by omega, Wk.cut 3 rfl, i + 1, by omega, by rw [w64 (x := (i : Int) + 1) (by omega), wth_ff ht2 ht4]; rfl⟩
    · skip
      have hil : i = h.must.length := by omega
      subst hil
      have hwl := wthT_len h.must n h.must.length
      refine tr_exit ?_
      simp only [thenE, inBlkE, Nat.reduceEqDiff, ↓reduceIte]
      refine hK4 _ ?_
      refine tr_seq fun K14 hK14 => ?_
      refine tr_seq fun K15 hK15 => ?_
      refine tr_region [1, 2, 4, 5, 46] rfl rfl fun K hK => ?_
      iterate 2 refine evR_p ?_
      refine evR_e hK ?_; clear hK K
      refine hK15 _ ?_
      refine tr_condB (fun ht5 => ?_) (fun ht5 => ?_)
      · skip
        refine tr_region [2, 4, 5] rfl rfl fun K hK => ?_
        iterate 2 refine evR_p ?_
        refine evR_bs ?_
        iterate 2 refine evR_p ?_
        refine evR_e hK ?_; clear hK K
        refine hK14 _ ?_
        refine tr_seq fun K16 hK16 => ?_
        refine tr_region [2, 4] rfl rfl fun K hK => ?_
        iterate 3 refine evR_p ?_
        refine evR_e hK ?_; clear hK K
        refine hK16 _ ?_
        refine tr_seq fun K17 hK17 => ?_
        refine tr_region [4] rfl rfl fun K hK => ?_
        iterate 2 refine evR_p ?_
        refine evR_e hK ?_; clear hK K
        refine hK17 _ ?_
        refine tr_ret ?_
        (try simp only [thenE, inBlkE])
        simp (maxSteps := 4000000) (disch := first | assumption | omega | (simp only [go_sem, *]; done) | (simp only [go_sem, *]; omega)) only [postA, postO, resV1, fzAll, go_sem, hq, Int.reduceToNat, Nat.reduceBEq, Nat.reduceEqDiff, Nat.reduceAdd, Nat.reduceMul, Nat.reduceLeDiff, Nat.reduceLT, Nat.reduceSub, ↓reduceIte, reduceCtorEq]
        all_goals (first | (rw [show (withH h n).must = wthE h.must n from (wthE_ins (valid_pw hv) n).symm, wthE_f ht5, ← encI_one]; rfl) | (rw [show (withH h n).must = wthE h.must n from (wthE_ins (valid_pw hv) n).symm, wthE_t ht5]; rfl))
      · skip
        refine tr_skip ?_
        (try simp only [thenE, inBlkE])
        refine hK14 _ ?_
        refine tr_seq fun K18 hK18 => ?_
        refine tr_region [2, 4] rfl rfl fun K hK => ?_
        iterate 3 refine evR_p ?_
        refine evR_e hK ?_; clear hK K
        refine hK18 _ ?_
        refine tr_seq fun K19 hK19 => ?_
        refine tr_region [4] rfl rfl fun K hK => ?_
        iterate 2 refine evR_p ?_
        refine evR_e hK ?_; clear hK K
        refine hK19 _ ?_
        refine tr_ret ?_
        (try simp only [thenE, inBlkE])
        simp (maxSteps := 4000000) (disch := first | assumption | omega | (simp only [go_sem, *]; done) | (simp only [go_sem, *]; omega)) only [postA, postO, resV1, fzAll, go_sem, hq, Int.reduceToNat, Nat.reduceBEq, Nat.reduceEqDiff, Nat.reduceAdd, Nat.reduceMul, Nat.reduceLeDiff, Nat.reduceLT, Nat.reduceSub, ↓reduceIte, reduceCtorEq]
        all_goals (first | (rw [show (withH h n).must = wthE h.must n from (wthE_ins (valid_pw hv) n).symm, wthE_f ht5, ← encI_one]; rfl) | (rw [show (withH h n).must = wthE h.must n from (wthE_ins (valid_pw hv) n).symm, wthE_t ht5]; rfl))

theorem k26 (a b : List Int) (ha : a.length ≤ maxLen) (hb : b.length ≤ maxLen) : CallsA Tryd.prog 26 [.sl 1 (encI a), .sl 1 (encI b)] (.bool (decide (a = b))) := by
  unfold maxLen at ha hb
  have hq : True := trivial
  refine callsA_of_tr Tryd.func26 rfl (Nat.le_of_ble_eq_true rfl) ?_
  simp only [Tryd.results26, envOf, Nat.reduceAdd]
  refine tr_seq fun K1 hK1 => ?_
  refine tr_region [0, 1] rfl rfl fun K hK => ?_
  refine evR_p ?_
  refine evR_e hK ?_; clear hK K
  refine hK1 _ ?_
  refine tr_seq fun K2 hK2 => ?_
  refine tr_seq fun K3 hK3 => ?_
  refine tr_region [0, 1, 10] rfl rfl fun K hK => ?_
  iterate 5 refine evR_p ?_
  refine evR_e hK ?_; clear hK K
  refine hK3 _ ?_
  refine tr_condB (fun ht1 => ?_) (fun ht1 => ?_)
  · skip
    refine tr_seq fun K4 hK4 => ?_
    refine tr_region [4] rfl rfl fun K hK => ?_
    refine evR_p ?_
    refine evR_e hK ?_; clear hK K
    refine hK4 _ ?_
    refine tr_ret ?_
    (try simp only [thenE, inBlkE])
    simp (maxSteps := 4000000) (disch := first | assumption | omega | (simp only [go_sem, *]; done) | (simp only [go_sem, *]; omega)) only [postA, postO, resV1, fzAll, go_sem, hq, Int.reduceToNat, Nat.reduceBEq, Nat.reduceEqDiff, Nat.reduceAdd, Nat.reduceMul, Nat.reduceLeDiff, Nat.reduceLT, Nat.reduceSub, ↓reduceIte, reduceCtorEq]
    all_goals ((first | (simp only [V.bool.injEq]; symm; rw [decide_eq_false_iff_not]; exact ne_of_getD (by assumption)) | (simp only [V.bool.injEq]; symm; rw [decide_eq_false_iff_not]; exact ne_of_getD (fun e => absurd (t3_ext.1 e) (by assumption))) | (simp only [V.bool.injEq]; symm; rw [decide_eq_true_iff]; exact eq_of_take (by omega) he) | (simp only [V.bool.injEq]; symm; rw [decide_eq_false_iff_not]; intro e; subst e; omega)))
  · skip
    refine tr_skip ?_
    (try simp only [thenE, inBlkE])
    refine hK2 _ ?_
    refine tr_seq fun K5 hK5 => ?_
    refine tr_seq fun K6 hK6 => ?_
    refine tr_region [0, 1, 5] rfl rfl fun K hK => ?_
    refine evR_p ?_
    refine evR_e hK ?_; clear hK K
    refine hK6 _ ?_
    refine tr_block ?_
    -- loop 1: live [0, 1, 5]
    refine tr_loopW (fun m σ => ∃ i, i + m = a.length ∧ a.take i = b.take i ∧ σ = ⟨[(0, .sl 1 (encI a)), (1, .sl 1 (encI b)), (5, .int .i64 (i : Nat))], [], 0⟩) (a.length) ?_ ?_
    · exact ⟨_, Wk.refl _, 0, by omega, rfl, rfl⟩
    · rintro m σ ⟨i, hi, he, rfl⟩ KL1 hKL1
      refine tr_seq fun K7 hK7 => ?_
      refine tr_seq fun K8 hK8 => ?_
      refine tr_region [0, 1, 5, 14] rfl rfl fun K hK => ?_
      iterate 4 refine evR_p ?_
      refine evR_e hK ?_; clear hK K
      refine hK8 _ ?_
      refine tr_condB (fun ht2 => ?_) (fun ht2 => ?_)
      · skip
        have hil : i < a.length := by omega
        have hil2 : i < b.length := by omega
        replace hq := And.intro hq (And.intro hil (hil2))
        refine tr_skip ?_
        (try simp only [thenE, inBlkE])
        refine hK7 _ ?_
        refine tr_seq fun K9 hK9 => ?_
        refine tr_block ?_
        refine tr_seq fun K10 hK10 => ?_
        refine tr_draw [] [0, 1, 5, 25] mixed rfl (by kernel_rfl) rfl fun K hK => ?_
        iterate 9 refine evD_p ?_
        refine evD_e hK ?_; clear hK K
        refine hK10 _ ?_
        refine tr_condB (fun ht3 => ?_) (fun ht3 => ?_)
        · skip
          refine tr_seq fun K11 hK11 => ?_
          refine tr_region [4] rfl rfl fun K hK => ?_
          refine evR_p ?_
          refine evR_e hK ?_; clear hK K
          refine hK11 _ ?_
          refine tr_ret ?_
          (try simp only [thenE, inBlkE])
          simp (maxSteps := 4000000) (disch := first | assumption | omega | (simp only [go_sem, *]; done) | (simp only [go_sem, *]; omega)) only [postA, postO, resV1, fzAll, go_sem, hq, Int.reduceToNat, Nat.reduceBEq, Nat.reduceEqDiff, Nat.reduceAdd, Nat.reduceMul, Nat.reduceLeDiff, Nat.reduceLT, Nat.reduceSub, ↓reduceIte, reduceCtorEq]
          all_goals ((first | (simp only [V.bool.injEq]; symm; rw [decide_eq_false_iff_not]; exact ne_of_getD (by assumption)) | (simp only [V.bool.injEq]; symm; rw [decide_eq_false_iff_not]; exact ne_of_getD (fun e => absurd (t3_ext.1 e) (by assumption))) | (simp only [V.bool.injEq]; symm; rw [decide_eq_true_iff]; exact eq_of_take (by omega) he) | (simp only [V.bool.injEq]; symm; rw [decide_eq_false_iff_not]; intro e; subst e; omega)))
        · skip
          refine tr_skip ?_
          (try simp only [thenE, inBlkE])
          refine hK9 _ ?_
          refine tr_region [0, 1, 5] rfl rfl fun K hK => ?_
          iterate 3 refine evR_p ?_
          refine evR_e hK ?_; clear hK K
          refine hKL1 _ ?_
          exact ⟨m - 1, _, by omega, Wk.refl _, i + 1, by omega, take_one_eq hil hil2 he (by assumption), by rw [w64 (x := (i : Int) + 1) (by omega)]; rfl⟩
      · skip
        have hil : i = a.length := by omega
        subst hil
        refine tr_exit ?_
        simp only [thenE, inBlkE, Nat.reduceEqDiff, ↓reduceIte]
        refine hK5 _ ?_
        refine tr_seq fun K12 hK12 => ?_
        refine tr_region [4] rfl rfl fun K hK => ?_
        refine evR_p ?_
        refine evR_e hK ?_; clear hK K
        refine hK12 _ ?_
        refine tr_ret ?_
        (try simp only [thenE, inBlkE])
        simp (maxSteps := 4000000) (disch := first | assumption | omega | (simp only [go_sem, *]; done) | (simp only [go_sem, *]; omega)) only [postA, postO, resV1, fzAll, go_sem, hq, Int.reduceToNat, Nat.reduceBEq, Nat.reduceEqDiff, Nat.reduceAdd, Nat.reduceMul, Nat.reduceLeDiff, Nat.reduceLT, Nat.reduceSub, ↓reduceIte, reduceCtorEq]
        all_goals ((first | (simp only [V.bool.injEq]; symm; rw [decide_eq_false_iff_not]; exact ne_of_getD (by assumption)) | (simp only [V.bool.injEq]; symm; rw [decide_eq_false_iff_not]; exact ne_of_getD (fun e => absurd (t3_ext.1 e) (by assumption))) | (simp only [V.bool.injEq]; symm; rw [decide_eq_true_iff]; exact eq_of_take (by omega) he) | (simp only [V.bool.injEq]; symm; rw [decide_eq_false_iff_not]; intro e; subst e; omega)))

section
attribute [local go_sem] encT_length encT_getD V.isI
theorem k25 (a b : List T3) (ha : a.length ≤ maxLen) (hb : b.length ≤ maxLen) : CallsA Tryd.prog 25 [.sl 3 (encT a), .sl 3 (encT b)] (.bool (decide (a = b))) := by
  unfold maxLen at ha hb
  have hq : True := trivial
  refine callsA_of_tr Tryd.func25 rfl (Nat.le_of_ble_eq_true rfl) ?_
  simp only [Tryd.results25, envOf, Nat.reduceAdd]
  refine tr_seq fun K1 hK1 => ?_
  refine tr_region [0, 1] rfl rfl fun K hK => ?_
  refine evR_p ?_
  refine evR_e hK ?_; clear hK K
  refine hK1 _ ?_
  refine tr_seq fun K2 hK2 => ?_
  refine tr_seq fun K3 hK3 => ?_
  refine tr_region [0, 1, 10] rfl rfl fun K hK => ?_
  iterate 5 refine evR_p ?_
  refine evR_e hK ?_; clear hK K
  refine hK3 _ ?_
  refine tr_condB (fun ht1 => ?_) (fun ht1 => ?_)
  · skip
    refine tr_seq fun K4 hK4 => ?_
    refine tr_region [4] rfl rfl fun K hK => ?_
    refine evR_p ?_
    refine evR_e hK ?_; clear hK K
    refine hK4 _ ?_
    refine tr_ret ?_
    (try simp only [thenE, inBlkE])
    simp (maxSteps := 4000000) (disch := first | assumption | omega | (simp only [go_sem, *]; done) | (simp only [go_sem, *]; omega)) only [postA, postO, resV1, fzAll, go_sem, hq, Int.reduceToNat, Nat.reduceBEq, Nat.reduceEqDiff, Nat.reduceAdd, Nat.reduceMul, Nat.reduceLeDiff, Nat.reduceLT, Nat.reduceSub, ↓reduceIte, reduceCtorEq]
    all_goals ((first | (simp only [V.bool.injEq]; symm; rw [decide_eq_false_iff_not]; exact ne_of_getD (by assumption)) | (simp only [V.bool.injEq]; symm; rw [decide_eq_false_iff_not]; exact ne_of_getD (fun e => absurd (t3_ext.1 e) (by assumption))) | (simp only [V.bool.injEq]; symm; rw [decide_eq_true_iff]; exact eq_of_take (by omega) he) | (simp only [V.bool.injEq]; symm; rw [decide_eq_false_iff_not]; intro e; subst e; omega)))
  · skip
    refine tr_skip ?_
    (try simp only [thenE, inBlkE])
    refine hK2 _ ?_
    refine tr_seq fun K5 hK5 => ?_
    refine tr_seq fun K6 hK6 => ?_
    refine tr_region [0, 1, 5] rfl rfl fun K hK => ?_
    refine evR_p ?_
    refine evR_e hK ?_; clear hK K
    refine hK6 _ ?_
    refine tr_block ?_
    -- loop 1: live [0, 1, 5]
    refine tr_loopW (fun m σ => ∃ i, i + m = a.length ∧ a.take i = b.take i ∧ σ = ⟨[(0, .sl 3 (encT a)), (1, .sl 3 (encT b)), (5, .int .i64 (i : Nat))], [], 0⟩) (a.length) ?_ ?_
    · exact ⟨_, Wk.refl _, 0, by omega, rfl, rfl⟩
    · rintro m σ ⟨i, hi, he, rfl⟩ KL1 hKL1
      refine tr_seq fun K7 hK7 => ?_
      refine tr_seq fun K8 hK8 => ?_
      refine tr_region [0, 1, 5, 14] rfl rfl fun K hK => ?_
      iterate 4 refine evR_p ?_
      refine evR_e hK ?_; clear hK K
      refine hK8 _ ?_
      refine tr_condB (fun ht2 => ?_) (fun ht2 => ?_)
      · skip
        have hil : i < a.length := by omega
        have hil2 : i < b.length := by omega
        replace hq := And.intro hq (And.intro hil (And.intro hil2 (agEq3)))
        refine tr_skip ?_
        (try simp only [thenE, inBlkE])
        refine hK7 _ ?_
        refine tr_seq fun K9 hK9 => ?_
        refine tr_block ?_
        refine tr_seq fun K10 hK10 => ?_
        refine tr_draw [] [0, 1, 5, 25] mixed rfl (by kernel_rfl) rfl fun K hK => ?_
        iterate 9 refine evD_p ?_
        refine evD_e hK ?_; clear hK K
        refine hK10 _ ?_
        refine tr_condB (fun ht3 => ?_) (fun ht3 => ?_)
        · skip
          refine tr_seq fun K11 hK11 => ?_
          refine tr_region [4] rfl rfl fun K hK => ?_
          refine evR_p ?_
          refine evR_e hK ?_; clear hK K
          refine hK11 _ ?_
          refine tr_ret ?_
          (try simp only [thenE, inBlkE])
          simp (maxSteps := 4000000) (disch := first | assumption | omega | (simp only [go_sem, *]; done) | (simp only [go_sem, *]; omega)) only [postA, postO, resV1, fzAll, go_sem, hq, Int.reduceToNat, Nat.reduceBEq, Nat.reduceEqDiff, Nat.reduceAdd, Nat.reduceMul, Nat.reduceLeDiff, Nat.reduceLT, Nat.reduceSub, ↓reduceIte, reduceCtorEq]
          all_goals ((first | (simp only [V.bool.injEq]; symm; rw [decide_eq_false_iff_not]; exact ne_of_getD (by assumption)) | (simp only [V.bool.injEq]; symm; rw [decide_eq_false_iff_not]; exact ne_of_getD (fun e => absurd (t3_ext.1 e) (by assumption))) | (simp only [V.bool.injEq]; symm; rw [decide_eq_true_iff]; exact eq_of_take (by omega) he) | (simp only [V.bool.injEq]; symm; rw [decide_eq_false_iff_not]; intro e; subst e; omega)))
        · skip
          refine tr_skip ?_
          (try simp only [thenE, inBlkE])
          refine hK9 _ ?_
          refine tr_region [0, 1, 5] rfl rfl fun K hK => ?_
          iterate 3 refine evR_p ?_
          refine evR_e hK ?_; clear hK K
          refine hKL1 _ ?_
          exact ⟨m - 1, _, by omega, Wk.refl _, i + 1, by omega, take_one_eq hil hil2 he (t3_ext.2 (by assumption)), by rw [w64 (x := (i : Int) + 1) (by omega)]; rfl⟩
      · skip
        have hil : i = a.length := by omega
        subst hil
        refine tr_exit ?_
        simp only [thenE, inBlkE, Nat.reduceEqDiff, ↓reduceIte]
        refine hK5 _ ?_
        refine tr_seq fun K12 hK12 => ?_
        refine tr_region [4] rfl rfl fun K hK => ?_
        refine evR_p ?_
        refine evR_e hK ?_; clear hK K
        refine hK12 _ ?_
        refine tr_ret ?_
        (try simp only [thenE, inBlkE])
        simp (maxSteps := 4000000) (disch := first | assumption | omega | (simp only [go_sem, *]; done) | (simp only [go_sem, *]; omega)) only [postA, postO, resV1, fzAll, go_sem, hq, Int.reduceToNat, Nat.reduceBEq, Nat.reduceEqDiff, Nat.reduceAdd, Nat.reduceMul, Nat.reduceLeDiff, Nat.reduceLT, Nat.reduceSub, ↓reduceIte, reduceCtorEq]
        all_goals ((first | (simp only [V.bool.injEq]; symm; rw [decide_eq_false_iff_not]; exact ne_of_getD (by assumption)) | (simp only [V.bool.injEq]; symm; rw [decide_eq_false_iff_not]; exact ne_of_getD (fun e => absurd (t3_ext.1 e) (by assumption))) | (simp only [V.bool.injEq]; symm; rw [decide_eq_true_iff]; exact eq_of_take (by omega) he) | (simp only [V.bool.injEq]; symm; rw [decide_eq_false_iff_not]; intro e; subst e; omega)))
end

end Go.Proofs.YtaaongcfeldcoaaDoor


namespace Go.Proofs.YtaaongcfeldcoaaDoor
open Go.RowKit
set_option linter.unusedVariables false
set_option linter.unusedSimpArgs false
set_option maxRecDepth 100000
attribute [local go_sem] Nat.zero_add Nat.add_zero Nat.mul_one eq_self ne_eq not_true_eq_false not_false_eq_true decide_true decide_false decide_not Bool.false_eq_true List.filter_cons List.filter_nil true_and and_true beq_false beq_true Bool.not_true Bool.not_false Bool.and_true Bool.true_and Option.getD_some Option.getD_none imp_self implies_true Int.toNat_natCast List.cons_append List.nil_append List.map_cons List.map_nil List.length_cons List.length_nil List.getD_cons_zero List.getD_cons_succ List.drop_zero List.drop_succ_cons List.take_succ_cons List.take_zero
attribute [local go_sem] lowN lowQ lowM isAl appOwn unw appF isE isO stpO notIn St.bare evO evDO isEff stp St.get St.slot St.put List.lookup un unL ofVal gof nth pickV pkB_false pkB_true binV unV loadV idxV fldV partV buildV fillV lenV sliV appV appR rowsV winV V.parts V.okp V.sc Mem.look_cons Mem.look_nil V.cl V.clL AObj.clo fzAll exps St.fz Mem.fz V.fz V.fzL AObj.fz Option.isSome_some Option.isSome_none Bool.or_true Bool.true_or Bool.or_false Bool.false_or false_and and_false false_or or_false arT_112 arT_22 arT_23 arT_27 arT_28 arT_29 arT_33 arT_52 arT_57 arT_65 arT_76 arT_77 arT_84 arT_88 arT_9 arT_95 boolT_133 boolT_29 boolT_3 boolT_36 boolT_4 boolT_70 boolT_92 flatT_133 flatT_29 flatT_3 flatT_36 flatT_4 flatT_70 flatT_92 intT_121 intT_142 intT_144 intT_145 intT_3 intT_5 lay_110 lay_145 lay_22 lay_23 lay_25 lay_27 lay_28 lay_29 lay_3 lay_31 lay_33 lay_35 lay_4 lay_42 lay_51 lay_56 lay_57 lay_59 lay_70 lay_73 lay_77 lay_79 lay_81 lay_83 lay_84 lay_85 lay_88 lay_92 lay_94 lay_95 okF_10 okF_100 okF_101 okF_102 okF_103 okF_104 okF_105 okF_11 okF_12 okF_122 okF_123 okF_124 okF_125 okF_126 okF_127 okF_13 okF_14 okF_15 okF_16 okF_17 okF_18 okF_19 okF_20 okF_21 okF_22 okF_23 okF_24 okF_25 okF_26 okF_27 okF_28 okF_29 okF_3 okF_30 okF_31 okF_32 okF_33 okF_34 okF_35 okF_36 okF_37 okF_38 okF_39 okF_4 okF_40 okF_41 okF_42 okF_43 okF_44 okF_45 okF_46 okF_47 okF_48 okF_49 okF_5 okF_50 okF_51 okF_52 okF_53 okF_54 okF_55 okF_56 okF_57 okF_58 okF_59 okF_6 okF_60 okF_61 okF_62 okF_63 okF_64 okF_65 okF_66 okF_67 okF_68 okF_69 okF_7 okF_70 okF_71 okF_72 okF_73 okF_74 okF_75 okF_76 okF_77 okF_78 okF_79 okF_8 okF_80 okF_81 okF_82 okF_83 okF_84 okF_85 okF_86 okF_87 okF_88 okF_89 okF_9 okF_90 okF_91 okF_92 okF_93 okF_94 okF_95 okF_96 okF_97 okF_98 okF_99 plT_31 plT_35 plT_51 plT_56 plT_59 plT_70 plT_73 plT_90 plT_92 plT_95 slT_112 slT_22 slT_23 slT_27 slT_28 slT_29 slT_33 slT_52 slT_57 slT_65 slT_76 slT_77 slT_88 slT_95 stT_25_0 stT_25_1 stT_25_2 stT_25_3 stT_25_4 stT_31_0 stT_31_1 stT_31_2 stT_31_3 stT_35_0 stT_35_1 stT_35_2 stT_35_3 stT_51_0 stT_51_1 stT_56_0 stT_56_1 stT_56_2 stT_56_3 stT_59_0 stT_59_1 stT_59_2 stT_73_0 stT_73_3 stT_73_4 stT_73_5 stT_79_0 stT_79_1 stT_79_2 stT_83_0 stT_90_0 stT_90_1 stT_90_2 stT_90_3 strT_76 strT_77 strT_84 strT_9 zeroT_112 zeroT_145 zeroT_3 zeroT_31 zeroT_33 zeroT_35 zeroT_42 zeroT_51 zeroT_56 zeroT_57 zeroT_59 zeroT_70 zeroT_73 zeroT_79 zeroT_83 zeroT_90 zeroT_92 zeroT_95
attribute [local go_sem] List.getElem?_cons_zero List.getElem?_cons_succ List.zip_cons_cons List.zip_nil_left List.zip_nil_right Bool.false_and Bool.and_false List.length_append List.length_set List.length_replicate List.all_cons List.all_nil encI_length encI_getD encR_length encR_getD encRw encPg spl shp AObj.shp rowM isSt isRpS isRd csh AObj.csh forall_const imp_self
attribute [local go_sem] encHr encOf encSp encP2 encSps_length encOfs_length encP2s_length encSps_getD encOfs_getD encP2s_getD
attribute [local simp] encI_length encR_length cellsI_length encSps_length encOfs_length encP2s_length
theorem k32a  : CallsM Tryd.prog 32 [.sl 1 []] ([]) (0) (.own 0) ([(0, .row 3 1 (encI []))]) (1) := by
  have hq : True := trivial
  refine callsM_of_tr Tryd.func32 rfl (Nat.le_of_ble_eq_true rfl) (Nat.le_of_ble_eq_true rfl) (Nat.le_of_ble_eq_true rfl) ?_
  simp only [Tryd.results32, envOf, gh, gv, List.cons_append, List.nil_append, Nat.reduceAdd]
  refine tr_seq fun K1 hK1 => ?_
  refine tr_region [0] rfl rfl fun K hK => ?_
  refine evR_p ?_
  refine evR_e hK ?_; clear hK K
  refine hK1 _ ?_
  refine tr_seq fun K2 hK2 => ?_
  refine tr_seq fun K3 hK3 => ?_
  refine tr_region [0, 4] rfl rfl fun K hK => ?_
  iterate 2 refine evR_p ?_
  refine evR_e hK ?_; clear hK K
  refine hK3 _ ?_
  refine tr_cond_ub rfl ?_ ?_
  · skip
    refine tr_seq fun K4 hK4 => ?_
    refine tr_region [2] rfl rfl fun K hK => ?_
    refine evR_p ?_
    refine evR_e hK ?_; clear hK K
    refine hK4 _ ?_
    refine tr_ret ?_
    (try simp only [thenE, inBlkE])
    all_goals first | refine ⟨_, (Wk.nilslot 3 1 2 rfl), ?_⟩ | refine ⟨_, (Wk.trans (Wk.ren 1 0 (Nat.le_of_ble_eq_true rfl) (Nat.le_of_ble_eq_true rfl) rfl) (Wk.cut 1 rfl)), ?_⟩ | refine ⟨_, (Wk.refl _), ?_⟩
    simp (maxSteps := 4000000) (disch := first | assumption | omega | (simp only [go_sem, *]; done) | (simp only [go_sem, *]; omega)) only [postM, ghOK, gv, St.ren, St.cut, V.ren, V.renL, AObj.ren, Nat.blt_eq, resV1, go_sem, hq, Int.reduceToNat, Nat.reduceBEq, Nat.reduceEqDiff, Nat.reduceAdd, Nat.reduceMul, Nat.reduceLeDiff, Nat.reduceLT, Nat.reduceSub, ↓reduceIte, reduceCtorEq]
    all_goals (rfl)
  · skip
    refine tr_skip ?_
    (try simp only [thenE, inBlkE])
    refine hK2 _ ?_
    refine tr_seq fun K5 hK5 => ?_
    refine tr_region [2] rfl rfl fun K hK => ?_
    refine evR_bo ?_
    iterate 3 refine evR_p ?_
    refine evR_e hK ?_; clear hK K
    refine hK5 _ ?_
    refine tr_ret ?_
    (try simp only [thenE, inBlkE])
    all_goals first | refine ⟨_, (Wk.nilslot 3 1 2 rfl), ?_⟩ | refine ⟨_, (Wk.trans (Wk.ren 1 0 (Nat.le_of_ble_eq_true rfl) (Nat.le_of_ble_eq_true rfl) rfl) (Wk.cut 1 rfl)), ?_⟩ | refine ⟨_, (Wk.refl _), ?_⟩
    simp (maxSteps := 4000000) (disch := first | assumption | omega | (simp only [go_sem, *]; done) | (simp only [go_sem, *]; omega)) only [postM, ghOK, gv, St.ren, St.cut, V.ren, V.renL, AObj.ren, Nat.blt_eq, resV1, go_sem, hq, Int.reduceToNat, Nat.reduceBEq, Nat.reduceEqDiff, Nat.reduceAdd, Nat.reduceMul, Nat.reduceLeDiff, Nat.reduceLT, Nat.reduceSub, ↓reduceIte, reduceCtorEq]
    all_goals (rfl)

section
attribute [local go_sem] List.replicate_zero
theorem k32b (a : Int) (l : List Int) (hm : l.length ≤ 1000) : CallsM Tryd.prog 32 [.sl 1 ([V.int .i64 a] :: encI l)] ([]) (0) (.own 0) ([(0, .row 3 1 ([V.int .i64 a] :: encI l))]) (1) := by
  have hq : True := trivial
  refine callsM_of_tr Tryd.func32 rfl (Nat.le_of_ble_eq_true rfl) (Nat.le_of_ble_eq_true rfl) (Nat.le_of_ble_eq_true rfl) ?_
  simp only [Tryd.results32, envOf, gh, gv, List.cons_append, List.nil_append, Nat.reduceAdd]
  refine tr_seq fun K1 hK1 => ?_
  refine tr_region [0] rfl rfl fun K hK => ?_
  refine evR_p ?_
  refine evR_e hK ?_; clear hK K
  refine hK1 _ ?_
  refine tr_seq fun K2 hK2 => ?_
  refine tr_seq fun K3 hK3 => ?_
  refine tr_region [0, 4] rfl rfl fun K hK => ?_
  iterate 2 refine evR_p ?_
  refine evR_e hK ?_; clear hK K
  refine hK3 _ ?_
  refine tr_condB (fun ht1 => ?_) (fun ht1 => ?_)
  · skip
    refine tr_seq fun K4 hK4 => ?_
    refine tr_region [2] rfl rfl fun K hK => ?_
    refine evR_p ?_
    refine evR_e hK ?_; clear hK K
    refine hK4 _ ?_
    refine tr_ret ?_
    (try simp only [thenE, inBlkE])
    all_goals first | refine ⟨_, (Wk.nilslot 3 1 2 rfl), ?_⟩ | refine ⟨_, (Wk.trans (Wk.ren 1 0 (Nat.le_of_ble_eq_true rfl) (Nat.le_of_ble_eq_true rfl) rfl) (Wk.cut 1 rfl)), ?_⟩ | refine ⟨_, (Wk.refl _), ?_⟩
    simp (maxSteps := 4000000) (disch := first | assumption | omega | (simp only [go_sem, *]; done) | (simp only [go_sem, *]; omega)) only [postM, ghOK, gv, St.ren, St.cut, V.ren, V.renL, AObj.ren, Nat.blt_eq, resV1, go_sem, hq, Int.reduceToNat, Nat.reduceBEq, Nat.reduceEqDiff, Nat.reduceAdd, Nat.reduceMul, Nat.reduceLeDiff, Nat.reduceLT, Nat.reduceSub, ↓reduceIte, reduceCtorEq]
    all_goals (first | (cases ht1; done) | rfl)
  · skip
    refine tr_skip ?_
    (try simp only [thenE, inBlkE])
    refine hK2 _ ?_
    refine tr_seq fun K5 hK5 => ?_
    refine tr_region [2] rfl rfl fun K hK => ?_
    refine evR_bo ?_
    iterate 3 refine evR_p ?_
    refine evR_e hK ?_; clear hK K
    refine hK5 _ ?_
    refine tr_ret ?_
    (try simp only [thenE, inBlkE])
    all_goals first | refine ⟨_, (Wk.nilslot 3 1 2 rfl), ?_⟩ | refine ⟨_, (Wk.trans (Wk.ren 1 0 (Nat.le_of_ble_eq_true rfl) (Nat.le_of_ble_eq_true rfl) rfl) (Wk.cut 1 rfl)), ?_⟩ | refine ⟨_, (Wk.refl _), ?_⟩
    simp (maxSteps := 4000000) (disch := first | assumption | omega | (simp only [go_sem, *]; done) | (simp only [go_sem, *]; omega)) only [postM, ghOK, gv, St.ren, St.cut, V.ren, V.renL, AObj.ren, Nat.blt_eq, resV1, go_sem, hq, Int.reduceToNat, Nat.reduceBEq, Nat.reduceEqDiff, Nat.reduceAdd, Nat.reduceMul, Nat.reduceLeDiff, Nat.reduceLT, Nat.reduceSub, ↓reduceIte, reduceCtorEq]
    all_goals (first | (cases ht1; done) | rfl)
end
theorem k32 (l : List Int) (hm : l.length ≤ 1000) : CallsM Tryd.prog 32 [.sl 1 (encI l)] [] 0 (.own 0) [(0, .row 3 1 (encI l))] 1 := by
  cases l with
  | nil => exact k32a
  | cons a l => exact k32b a l (by simp at hm; omega)

end Go.Proofs.YtaaongcfeldcoaaDoor

