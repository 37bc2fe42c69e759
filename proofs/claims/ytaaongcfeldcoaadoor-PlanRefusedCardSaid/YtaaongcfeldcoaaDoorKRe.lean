/- Texts of this proof, put together. -/
import Derived.Test.YtaaongcfeldcoaaDoorKRb
import Derived.Test.YtaaongcfeldcoaaDoorKRc
import Derived.Test.YtaaongcfeldcoaaDoorKRd
namespace Go.Proofs.YtaaongcfeldcoaaDoor
open Go.RowKit
set_option linter.unusedVariables false
set_option linter.unusedSimpArgs false
set_option maxRecDepth 100000
attribute [local go_sem] Nat.zero_add Nat.add_zero Nat.mul_one eq_self ne_eq not_true_eq_false not_false_eq_true decide_true decide_false decide_not Bool.false_eq_true List.filter_cons List.filter_nil true_and and_true beq_false beq_true Bool.not_true Bool.not_false Bool.and_true Bool.true_and Option.getD_some Option.getD_none imp_self implies_true Int.toNat_natCast List.cons_append List.nil_append List.map_cons List.map_nil List.length_cons List.length_nil List.getD_cons_zero List.getD_cons_succ List.drop_zero List.drop_succ_cons List.take_succ_cons List.take_zero
attribute [local go_sem] lowN lowQ lowM isAl appOwn unw appF isE isO stpO notIn St.bare evO evDO isEff stp St.get St.slot St.put List.lookup un unL ofVal gof nth pickV pkB_false pkB_true binV unV loadV idxV fldV partV buildV fillV lenV sliV appV appR rowsV winV V.parts V.okp V.sc Mem.look_cons Mem.look_nil V.cl V.clL AObj.clo fzAll exps St.fz Mem.fz V.fz V.fzL AObj.fz Option.isSome_some Option.isSome_none Bool.or_true Bool.true_or Bool.or_false Bool.false_or false_and and_false false_or or_false arT_112 arT_22 arT_23 arT_27 arT_28 arT_29 arT_33 arT_52 arT_57 arT_65 arT_76 arT_77 arT_84 arT_88 arT_9 arT_95 boolT_133 boolT_29 boolT_3 boolT_36 boolT_4 boolT_70 boolT_92 flatT_133 flatT_29 flatT_3 flatT_36 flatT_4 flatT_70 flatT_92 intT_121 intT_142 intT_144 intT_145 intT_3 intT_5 lay_110 lay_145 lay_22 lay_23 lay_25 lay_27 lay_28 lay_29 lay_3 lay_31 lay_33 lay_35 lay_4 lay_42 lay_51 lay_56 lay_57 lay_59 lay_70 lay_73 lay_77 lay_79 lay_81 lay_83 lay_84 lay_85 lay_88 lay_92 lay_94 lay_95 okF_10 okF_100 okF_101 okF_102 okF_103 okF_104 okF_105 okF_11 okF_12 okF_122 okF_123 okF_124 okF_125 okF_126 okF_127 okF_13 okF_14 okF_15 okF_16 okF_17 okF_18 okF_19 okF_20 okF_21 okF_22 okF_23 okF_24 okF_25 okF_26 okF_27 okF_28 okF_29 okF_3 okF_30 okF_31 okF_32 okF_33 okF_34 okF_35 okF_36 okF_37 okF_38 okF_39 okF_4 okF_40 okF_41 okF_42 okF_43 okF_44 okF_45 okF_46 okF_47 okF_48 okF_49 okF_5 okF_50 okF_51 okF_52 okF_53 okF_54 okF_55 okF_56 okF_57 okF_58 okF_59 okF_6 okF_60 okF_61 okF_62 okF_63 okF_64 okF_65 okF_66 okF_67 okF_68 okF_69 okF_7 okF_70 okF_71 okF_72 okF_73 okF_74 okF_75 okF_76 okF_77 okF_78 okF_79 okF_8 okF_80 okF_81 okF_82 okF_83 okF_84 okF_85 okF_86 okF_87 okF_88 okF_89 okF_9 okF_90 okF_91 okF_92 okF_93 okF_94 okF_95 okF_96 okF_97 okF_98 okF_99 plT_31 plT_35 plT_51 plT_56 plT_59 plT_70 plT_73 plT_90 plT_92 plT_95 slT_112 slT_22 slT_23 slT_27 slT_28 slT_29 slT_33 slT_52 slT_57 slT_65 slT_76 slT_77 slT_88 slT_95 stT_25_0 stT_25_1 stT_25_2 stT_25_3 stT_25_4 stT_31_0 stT_31_1 stT_31_2 stT_31_3 stT_35_0 stT_35_1 stT_35_2 stT_35_3 stT_51_0 stT_51_1 stT_56_0 stT_56_1 stT_56_2 stT_56_3 stT_59_0 stT_59_1 stT_59_2 stT_73_0 stT_73_3 stT_73_4 stT_73_5 stT_79_0 stT_79_1 stT_79_2 stT_83_0 stT_90_0 stT_90_1 stT_90_2 stT_90_3 strT_76 strT_77 strT_84 strT_9 zeroT_112 zeroT_145 zeroT_3 zeroT_31 zeroT_33 zeroT_35 zeroT_42 zeroT_51 zeroT_56 zeroT_57 zeroT_59 zeroT_70 zeroT_73 zeroT_79 zeroT_83 zeroT_90 zeroT_92 zeroT_95
attribute [local go_sem] List.getElem?_cons_zero List.getElem?_cons_succ List.zip_cons_cons List.zip_nil_left List.zip_nil_right Bool.false_and Bool.and_false List.length_append List.length_set List.length_replicate List.all_cons List.all_nil encI_length encI_getD encR_length encR_getD encRw encPg spl shp AObj.shp rowM isSt isRpS isRd csh AObj.csh forall_const imp_self
attribute [local go_sem] encHr encOf encSp encP2 encSps_length encOfs_length encP2s_length encSps_getD encOfs_getD encP2s_getD
attribute [local simp] encI_length encR_length cellsI_length encSps_length encOfs_length encP2s_length
theorem k46 (a b : P2) : CallsA Tryd.prog 46 [.sl 1 (encI [a.a, a.b]), .sl 1 (encI [b.a, b.b])] (.int .i64 (p2Cmp a b)) := by
  have hq : True := trivial
  refine callsA_of_tr Tryd.func46 rfl (Nat.le_of_ble_eq_true rfl) ?_
  simp only [Tryd.results46, envOf, Nat.reduceAdd]
  refine tr_seq fun K1 hK1 => ?_
  refine tr_region [0, 1] rfl rfl fun K hK => ?_
  refine evR_p ?_
  refine evR_e hK ?_; clear hK K
  refine hK1 _ ?_
  refine tr_seq fun K2 hK2 => ?_
  refine tr_seq fun K3 hK3 => ?_
  refine tr_region [0, 1, 9, 10, 11] rfl rfl fun K hK => ?_
  iterate 3 refine evR_p ?_
  refine evR_e hK ?_; clear hK K
  refine hK3 _ ?_
  refine tr_block ?_
  -- loop 1: live [0, 1, 9, 10, 11]
  refine tr_loopW (fun m σ => ∃ i : Nat, i + m = 2 ∧ (0 < i → cmpI a.a b.a = 0) ∧ (1 < i → cmpI a.b b.b = 0) ∧ σ = ⟨[(0, .sl 1 (encI [a.a, a.b])), (1, .sl 1 (encI [b.a, b.b])), (9, .sl 1 (encI [a.a, a.b])), (10, .int .i64 2), (11, .int .i64 (i : Nat))], [], 0⟩) (2) ?_ ?_
  · exact ⟨_, Wk.refl _, 0, by omega, by omega, by omega, rfl⟩
  · rintro m σ ⟨i, hi, hia, hib, rfl⟩ KL1 hKL1
    refine tr_seq fun K4 hK4 => ?_
    refine tr_region [0, 1, 9, 10, 11, 12] rfl rfl fun K hK => ?_
    refine evR_p ?_
    refine evR_e hK ?_; clear hK K
    refine hK4 _ ?_
    refine tr_seq fun K5 hK5 => ?_
    refine tr_condB (fun ht1 => ?_) (fun ht1 => ?_)
    · skip
      (first | (exfalso; omega) | skip)
      all_goals
        have hil : i < 2 := by omega
        have hg : [a.a, a.b].getD i 0 = if i = 0 then a.a else a.b := by match i, hil with | 0, _ => rfl | 1, _ => rfl
        have hg2 : [b.a, b.b].getD i 0 = if i = 0 then b.a else b.b := by match i, hil with | 0, _ => rfl | 1, _ => rfl
        replace hq := And.intro hq (And.intro hil (And.intro hg (hg2)))
        refine tr_skip ?_
        (try simp only [thenE, inBlkE])
        refine hK5 _ ?_
        refine tr_seq fun K6 hK6 => ?_
        refine tr_block ?_
        refine tr_seq fun K7 hK7 => ?_
        refine tr_region [0, 1, 5, 6, 9, 10, 11] rfl rfl fun K hK => ?_
        iterate 5 refine evR_p ?_
        refine evR_e hK ?_; clear hK K
        refine hK7 _ ?_
        refine tr_seq fun K8 hK8 => ?_
        refine tr_seq fun K9 hK9 => ?_
        refine tr_region [0, 1, 5, 6, 9, 10, 11, 19] rfl rfl fun K hK => ?_
        iterate 4 refine evR_p ?_
        refine evR_e hK ?_; clear hK K
        refine hK9 _ ?_
        refine tr_condB (fun ht2 => ?_) (fun ht2 => ?_)
        · skip
          (first | (exfalso; omega) | skip)
          all_goals
            refine tr_seq fun K10 hK10 => ?_
            refine tr_region [4] rfl rfl fun K hK => ?_
            refine evR_p ?_
            refine evR_e hK ?_; clear hK K
            refine hK10 _ ?_
            refine tr_ret ?_
            (try simp only [thenE, inBlkE])
            simp (maxSteps := 4000000) (disch := first | assumption | omega | (simp only [go_sem, *]; done) | (simp only [go_sem, *]; omega)) only [postA, postO, resV1, fzAll, go_sem, hq, Int.reduceToNat, Nat.reduceBEq, Nat.reduceEqDiff, Nat.reduceAdd, Nat.reduceMul, Nat.reduceLeDiff, Nat.reduceLT, Nat.reduceSub, ↓reduceIte, reduceCtorEq]
            all_goals (first | (have h0 := hia (by omega); have h1 := hib (by omega); simp [p2Cmp, h0, h1]; done) | (rcases (show i = 0 ∨ i = 1 by omega) with rfl | rfl; (have h3 : cmpI a.a b.a ≠ 0 := by simpa using ht3); simp [p2Cmp, h3]; (have h3 := hia (by omega)); simp [p2Cmp, h3]; done))
        · skip
          (first | (exfalso; omega) | skip)
          all_goals
            refine tr_skip ?_
            (try simp only [thenE, inBlkE])
            refine hK8 _ ?_
            refine tr_seq fun K11 hK11 => ?_
            refine tr_region [0, 1, 6, 7, 9, 10, 11] rfl rfl fun K hK => ?_
            iterate 5 refine evR_p ?_
            refine evR_e hK ?_; clear hK K
            refine hK11 _ ?_
            refine tr_seq fun K12 hK12 => ?_
            refine tr_region [0, 1, 8, 9, 10, 11] rfl rfl fun K hK => ?_
            iterate 2 refine evR_p ?_
            refine evR_c (hc := (k44 _ _)) (k := ?_)
            refine evR_p ?_
            refine evR_e hK ?_; clear hK K
            refine hK12 _ ?_
            refine tr_seq fun K13 hK13 => ?_
            refine tr_region [0, 1, 8, 9, 10, 11, 28] rfl rfl fun K hK => ?_
            iterate 2 refine evR_p ?_
            refine evR_e hK ?_; clear hK K
            refine hK13 _ ?_
            refine tr_condB (fun ht3 => ?_) (fun ht3 => ?_)
            · skip
              (first | (exfalso; omega) | skip)
              all_goals
                refine tr_seq fun K14 hK14 => ?_
                refine tr_region [4] rfl rfl fun K hK => ?_
                iterate 2 refine evR_p ?_
                refine evR_e hK ?_; clear hK K
                refine hK14 _ ?_
                refine tr_ret ?_
                (try simp only [thenE, inBlkE])
                simp (maxSteps := 4000000) (disch := first | assumption | omega | (simp only [go_sem, *]; done) | (simp only [go_sem, *]; omega)) only [postA, postO, resV1, fzAll, go_sem, hq, Int.reduceToNat, Nat.reduceBEq, Nat.reduceEqDiff, Nat.reduceAdd, Nat.reduceMul, Nat.reduceLeDiff, Nat.reduceLT, Nat.reduceSub, ↓reduceIte, reduceCtorEq]
                all_goals (first | (have h0 := hia (by omega); have h1 := hib (by omega); simp [p2Cmp, h0, h1]; done) | (rcases (show i = 0 ∨ i = 1 by omega) with rfl | rfl; (have h3 : cmpI a.a b.a ≠ 0 := by simpa using ht3); simp [p2Cmp, h3]; (have h3 := hia (by omega)); simp [p2Cmp, h3]; done))
            · skip
              (first | (exfalso; omega) | skip)
              all_goals
                refine tr_skip ?_
                (try simp only [thenE, inBlkE])
                refine hK6 _ ?_
                refine tr_region [0, 1, 9, 10, 11] rfl rfl fun K hK => ?_
                iterate 2 refine evR_p ?_
                refine evR_e hK ?_; clear hK K
                refine hKL1 _ ?_
                exact ⟨m - 1, _, by omega, Wk.refl _, i + 1, by omega, (by intro _; rcases (show i = 0 ∨ i = 1 by omega) with rfl | rfl; (simpa using ht3); (exact hia (by omega))), (by intro _; rcases (show i = 0 ∨ i = 1 by omega) with rfl | rfl; omega; (simpa using ht3)), by rw [w64 (x := (i : Int) + 1) (by omega)]; rfl⟩
    · skip
      (first | (exfalso; omega) | skip)
      all_goals
        have hil : i = 2 := by omega
        refine tr_exit ?_
        simp only [thenE, inBlkE, Nat.reduceEqDiff, ↓reduceIte]
        refine hK2 _ ?_
        refine tr_seq fun K15 hK15 => ?_
        refine tr_seq fun K16 hK16 => ?_
        refine tr_region [35] rfl rfl fun K hK => ?_
        iterate 5 refine evR_p ?_
        refine evR_e hK ?_; clear hK K
        refine hK16 _ ?_
        refine tr_condB (fun ht4 => ?_) (fun ht4 => ?_)
        · skip
          (first | (exfalso; omega) | skip)
          all_goals
            refine tr_seq fun K17 hK17 => ?_
            refine tr_region [4] rfl rfl fun K hK => ?_
            refine evR_p ?_
            refine evR_e hK ?_; clear hK K
            refine hK17 _ ?_
            refine tr_ret ?_
            (try simp only [thenE, inBlkE])
            simp (maxSteps := 4000000) (disch := first | assumption | omega | (simp only [go_sem, *]; done) | (simp only [go_sem, *]; omega)) only [postA, postO, resV1, fzAll, go_sem, hq, Int.reduceToNat, Nat.reduceBEq, Nat.reduceEqDiff, Nat.reduceAdd, Nat.reduceMul, Nat.reduceLeDiff, Nat.reduceLT, Nat.reduceSub, ↓reduceIte, reduceCtorEq]
            all_goals (first | (have h0 := hia (by omega); have h1 := hib (by omega); simp [p2Cmp, h0, h1]; done) | (rcases (show i = 0 ∨ i = 1 by omega) with rfl | rfl; (have h3 : cmpI a.a b.a ≠ 0 := by simpa using ht3); simp [p2Cmp, h3]; (have h3 := hia (by omega)); simp [p2Cmp, h3]; done))
        · skip
          (first | (exfalso; omega) | skip)
          all_goals
            refine tr_skip ?_
            (try simp only [thenE, inBlkE])
            refine hK15 _ ?_
            refine tr_seq fun K18 hK18 => ?_
            refine tr_region [4] rfl rfl fun K hK => ?_
            refine evR_p ?_
            refine evR_e hK ?_; clear hK K
            refine hK18 _ ?_
            refine tr_ret ?_
            (try simp only [thenE, inBlkE])
            simp (maxSteps := 4000000) (disch := first | assumption | omega | (simp only [go_sem, *]; done) | (simp only [go_sem, *]; omega)) only [postA, postO, resV1, fzAll, go_sem, hq, Int.reduceToNat, Nat.reduceBEq, Nat.reduceEqDiff, Nat.reduceAdd, Nat.reduceMul, Nat.reduceLeDiff, Nat.reduceLT, Nat.reduceSub, ↓reduceIte, reduceCtorEq]
            all_goals (first | (have h0 := hia (by omega); have h1 := hib (by omega); simp [p2Cmp, h0, h1]; done) | (rcases (show i = 0 ∨ i = 1 by omega) with rfl | rfl; (have h3 : cmpI a.a b.a ≠ 0 := by simpa using ht3); simp [p2Cmp, h3]; (have h3 := hia (by omega)); simp [p2Cmp, h3]; done))

theorem k45 (a b : P2) : CallsA Tryd.prog 45 [.agg (encP2 a), .agg (encP2 b)] (.int .i64 (p2Cmp a b)) := by
  have hq : True := trivial
  refine callsA_of_tr Tryd.func45 rfl (Nat.le_of_ble_eq_true rfl) ?_
  simp only [Tryd.results45, envOf, Nat.reduceAdd]
  refine tr_seq fun K1 hK1 => ?_
  refine tr_region [2, 3] rfl rfl fun K hK => ?_
  iterate 3 refine evR_p ?_
  refine evR_e hK ?_; clear hK K
  refine hK1 _ ?_
  refine tr_seq fun K2 hK2 => ?_
  refine tr_fz [.ptr 0 0, .ptr 1 0] (by simp (maxSteps := 4000000) (disch := first | assumption | omega | (simp only [go_sem, *]; done) | (simp only [go_sem, *]; omega)) only [go_sem, hq, Int.reduceToNat, Nat.reduceBEq, Nat.reduceEqDiff, Nat.reduceAdd, Nat.reduceMul, Nat.reduceLeDiff, Nat.reduceLT, Nat.reduceSub, ↓reduceIte, reduceCtorEq]; (try rfl)) ?_
  refine tr_draw [] [4] mixed rfl (by kernel_rfl) rfl fun K hK => ?_
  iterate 2 refine evD_p ?_
  refine evD_c (hc := (k46 a b)) (k := ?_)
  refine evD_p ?_
  refine evD_e hK ?_; clear hK K
  refine hK2 _ ?_
  refine tr_ret ?_
  (try simp only [thenE, inBlkE])
  simp (maxSteps := 4000000) (disch := first | assumption | omega | (simp only [go_sem, *]; done) | (simp only [go_sem, *]; omega)) only [postA, postO, resV1, fzAll, go_sem, hq, Int.reduceToNat, Nat.reduceBEq, Nat.reduceEqDiff, Nat.reduceAdd, Nat.reduceMul, Nat.reduceLeDiff, Nat.reduceLT, Nat.reduceSub, ↓reduceIte, reduceCtorEq]
  all_goals (rfl)

theorem k19 (h : Hr) (hr : h.rooms.length ≤ maxLen) (ho : h.offers.length ≤ maxLen) (ha : h.apart.length ≤ maxLen) (hm : h.must.length ≤ maxLen) : CallsA Tryd.prog 19 [.agg (encHr h)] (.bool (validH h)) := by
  have hr0 := hr
  have ho0 := ho
  have ha0 := ha
  have hm0 := hm
  unfold maxLen at hr0 ho0 ha0 hm0
  have hq : True := trivial
  refine callsA_of_tr Tryd.func19 rfl (Nat.le_of_ble_eq_true rfl) ?_
  simp only [Tryd.results19, envOf, Nat.reduceAdd]
  refine tr_seq fun K1 hK1 => ?_
  refine tr_region [1] rfl rfl fun K hK => ?_
  iterate 2 refine evR_p ?_
  refine evR_e hK ?_; clear hK K
  refine hK1 _ ?_
  refine tr_seq fun K2 hK2 => ?_
  refine tr_seq fun K3 hK3 => ?_
  refine tr_fz [.ptr 0 0] (by simp (maxSteps := 4000000) (disch := first | assumption | omega | (simp only [go_sem, *]; done) | (simp only [go_sem, *]; omega)) only [go_sem, hq, Int.reduceToNat, Nat.reduceBEq, Nat.reduceEqDiff, Nat.reduceAdd, Nat.reduceMul, Nat.reduceLeDiff, Nat.reduceLT, Nat.reduceSub, ↓reduceIte, reduceCtorEq]; (try rfl)) ?_
  refine tr_region [1, 25] rfl rfl fun K hK => ?_
  iterate 5 refine evR_p ?_
  iterate 4 refine evR_g ?_
  iterate 2 refine evR_p ?_
  iterate 4 refine evR_g ?_
  refine evR_p ?_
  refine evR_e hK ?_; clear hK K
  refine hK3 _ ?_
  refine tr_condB (fun ht1 => ?_) (fun ht1 => ?_)
  · skip
    refine tr_seq fun K4 hK4 => ?_
    refine tr_region [2] rfl rfl fun K hK => ?_
    refine evR_p ?_
    refine evR_e hK ?_; clear hK K
    refine hK4 _ ?_
    refine tr_ret ?_
    (try simp only [thenE, inBlkE])
    simp (maxSteps := 4000000) (disch := first | assumption | omega | (simp only [go_sem, *]; done) | (simp only [go_sem, *]; omega)) only [postA, postO, resV1, fzAll, go_sem, hq, Int.reduceToNat, Nat.reduceBEq, Nat.reduceEqDiff, Nat.reduceAdd, Nat.reduceMul, Nat.reduceLeDiff, Nat.reduceLT, Nat.reduceSub, ↓reduceIte, reduceCtorEq]
    all_goals (first | (rw [valid_len ht1]; done) | (rw [valid_sp hil hpi ht3]; done) | (rw [valid_bad ht1 hpi ht4]; done) | (rw [valid_good ht1 hpi ht4, ofCmp_fun, p2Cmp_fun, intCmp_fun]; simp [Bool.and_assoc]; done))
  · skip
    refine tr_skip ?_
    (try simp only [thenE, inBlkE])
    refine hK2 _ ?_
    refine tr_seq fun K5 hK5 => ?_
    refine tr_region [1, 3] rfl rfl fun K hK => ?_
    refine evR_p ?_
    refine evR_e hK ?_; clear hK K
    refine hK5 _ ?_
    refine tr_seq fun K6 hK6 => ?_
    refine tr_seq fun K7 hK7 => ?_
    refine tr_region [1, 3, 27, 28, 29] rfl rfl fun K hK => ?_
    iterate 4 refine evR_p ?_
    refine evR_e hK ?_; clear hK K
    refine hK7 _ ?_
    refine tr_block ?_
    -- loop 1: live [1, 3, 27, 28, 29]
    refine tr_loopW (fun m σ => ∃ i : Nat, i + m = h.rooms.length ∧ (∀ j, j < i → spOk h.rooms j = true) ∧ σ = ⟨[(1, .ep (encHr h)), (3, .int .i64 (prevTo h.rooms i)), (27, .sl 2 (encSps h.rooms)), (28, .int .i64 h.rooms.length), (29, .int .i64 (i : Nat))], [], 1⟩) (h.rooms.length) ?_ ?_
    · exact ⟨_, Wk.refl _, 0, by omega, (by intro j hj; omega), rfl⟩
    · rintro m σ ⟨i, hi, hpi, rfl⟩ KL1 hKL1
      refine tr_seq fun K8 hK8 => ?_
      refine tr_region [1, 3, 27, 28, 29, 30] rfl rfl fun K hK => ?_
      refine evR_p ?_
      refine evR_e hK ?_; clear hK K
      refine hK8 _ ?_
      refine tr_seq fun K9 hK9 => ?_
      refine tr_condB (fun ht2 => ?_) (fun ht2 => ?_)
      · skip
        have hil : i < h.rooms.length := by omega
        replace hq := And.intro hq (hil)
        refine tr_skip ?_
        (try simp only [thenE, inBlkE])
        refine hK9 _ ?_
        refine tr_seq fun K10 hK10 => ?_
        refine tr_block ?_
        refine tr_seq fun K11 hK11 => ?_
        refine tr_region [1, 3, 5, 27, 28, 29] rfl rfl fun K hK => ?_
        iterate 4 refine evR_p ?_
        refine evR_e hK ?_; clear hK K
        refine hK11 _ ?_
        refine tr_seq fun K12 hK12 => ?_
        refine tr_seq fun K13 hK13 => ?_
        refine tr_region [1, 5, 27, 28, 29, 48] rfl rfl fun K hK => ?_
        iterate 5 refine evR_p ?_
        iterate 5 refine evR_g ?_
        iterate 2 refine evR_p ?_
        iterate 3 refine evR_g ?_
        refine evR_p ?_
        refine evR_e hK ?_; clear hK K
        refine hK13 _ ?_
        refine tr_condB (fun ht3 => ?_) (fun ht3 => ?_)
        · skip
          refine tr_seq fun K14 hK14 => ?_
          refine tr_region [2] rfl rfl fun K hK => ?_
          refine evR_p ?_
          refine evR_e hK ?_; clear hK K
          refine hK14 _ ?_
          refine tr_ret ?_
          (try simp only [thenE, inBlkE])
          simp (maxSteps := 4000000) (disch := first | assumption | omega | (simp only [go_sem, *]; done) | (simp only [go_sem, *]; omega)) only [postA, postO, resV1, fzAll, go_sem, hq, Int.reduceToNat, Nat.reduceBEq, Nat.reduceEqDiff, Nat.reduceAdd, Nat.reduceMul, Nat.reduceLeDiff, Nat.reduceLT, Nat.reduceSub, ↓reduceIte, reduceCtorEq]
          all_goals (first | (rw [valid_len ht1]; done) | (rw [valid_sp hil hpi ht3]; done) | (rw [valid_bad ht1 hpi ht4]; done) | (rw [valid_good ht1 hpi ht4, ofCmp_fun, p2Cmp_fun, intCmp_fun]; simp [Bool.and_assoc]; done))
        · skip
          refine tr_skip ?_
          (try simp only [thenE, inBlkE])
          refine hK12 _ ?_
          refine tr_region [1, 3, 27, 28, 29] rfl rfl fun K hK => ?_
          iterate 3 refine evR_p ?_
          refine evR_e hK ?_; clear hK K
          refine hK10 _ ?_
          refine tr_region [1, 3, 27, 28, 29] rfl rfl fun K hK => ?_
          iterate 2 refine evR_p ?_
          refine evR_e hK ?_; clear hK K
          refine hKL1 _ ?_
          exact ⟨m - 1, _, by omega, Wk.cut 1 rfl, i + 1, by omega, sp_step hpi (by simpa using ht3), by rw [w64 (by omega)]; rfl⟩
      · skip
        have hil : i = h.rooms.length := by omega
        subst hil
        refine tr_exit ?_
        simp only [thenE, inBlkE, Nat.reduceEqDiff, ↓reduceIte]
        refine hK6 _ ?_
        refine tr_seq fun K15 hK15 => ?_
        refine tr_region [1, 6] rfl rfl fun K hK => ?_
        iterate 2 refine evR_p ?_
        refine evR_e hK ?_; clear hK K
        refine hK15 _ ?_
        refine tr_seq fun K16 hK16 => ?_
        refine tr_region [1, 6, 7] rfl rfl fun K hK => ?_
        refine evR_p ?_
        refine evR_e hK ?_; clear hK K
        refine hK16 _ ?_
        refine tr_seq fun K17 hK17 => ?_
        refine tr_seq fun K18 hK18 => ?_
        refine tr_region [1, 67] rfl rfl fun K hK => ?_
        iterate 3 refine evR_p ?_
        refine evR_c (hc := (k38 h.offers 35 [.ep (encHr h)] (fun o => !ofOk h.rooms.length o) okF_35 rfl (fun o _ => k35 o h hr) ho)) (k := ?_)
        refine evR_p ?_
        iterate 3 refine evR_g ?_
        refine evR_gc (hc := (k39 h.apart 37 [] (fun a => !p2Ok a) okF_37 rfl (fun a _ => k37 a) ha)) (k := ?_)
        iterate 2 refine evR_p ?_
        iterate 2 refine evR_g ?_
        refine evR_gc (hc := (k40 h.must 41 [] (fun n => !isInB n 0 11) okF_41 rfl (fun n _ => k41 n) hm)) (k := ?_)
        refine evR_p ?_
        refine evR_e hK ?_; clear hK K
        refine hK18 _ ?_
        refine tr_condB (fun ht4 => ?_) (fun ht4 => ?_)
        · skip
          refine tr_seq fun K19 hK19 => ?_
          refine tr_region [2] rfl rfl fun K hK => ?_
          refine evR_p ?_
          refine evR_e hK ?_; clear hK K
          refine hK19 _ ?_
          refine tr_ret ?_
          (try simp only [thenE, inBlkE])
          simp (maxSteps := 4000000) (disch := first | assumption | omega | (simp only [go_sem, *]; done) | (simp only [go_sem, *]; omega)) only [postA, postO, resV1, fzAll, go_sem, hq, Int.reduceToNat, Nat.reduceBEq, Nat.reduceEqDiff, Nat.reduceAdd, Nat.reduceMul, Nat.reduceLeDiff, Nat.reduceLT, Nat.reduceSub, ↓reduceIte, reduceCtorEq]
          all_goals (first | (rw [valid_len ht1]; done) | (rw [valid_sp hil hpi ht3]; done) | (rw [valid_bad ht1 hpi ht4]; done) | (rw [valid_good ht1 hpi ht4, ofCmp_fun, p2Cmp_fun, intCmp_fun]; simp [Bool.and_assoc]; done))
        · skip
          refine tr_skip ?_
          (try simp only [thenE, inBlkE])
          refine hK17 _ ?_
          refine tr_seq fun K20 hK20 => ?_
          refine tr_region [1, 8] rfl rfl fun K hK => ?_
          refine evR_p ?_
          refine evR_e hK ?_; clear hK K
          refine hK20 _ ?_
          refine tr_seq fun K21 hK21 => ?_
          refine tr_region [1, 8, 9] rfl rfl fun K hK => ?_
          refine evR_p ?_
          refine evR_e hK ?_; clear hK K
          refine hK21 _ ?_
          refine tr_seq fun K22 hK22 => ?_
          refine tr_region [2] rfl rfl fun K hK => ?_
          iterate 3 refine evR_p ?_
          refine evR_c (hc := (k47 h.offers 42 [] ofCmp okF_42 rfl (fun a _ b _ => k42 a b) ho)) (k := ?_)
          refine evR_p ?_
          iterate 3 refine evR_g ?_
          refine evR_gc (hc := (k48 h.apart 45 [] p2Cmp okF_45 rfl (fun a _ b _ => k45 a b) ha)) (k := ?_)
          iterate 2 refine evR_p ?_
          iterate 2 refine evR_g ?_
          refine evR_gc (hc := (k49 h.must 44 [] cmpI okF_44 rfl (fun a _ b _ => k44 a b) hm)) (k := ?_)
          iterate 2 refine evR_p ?_
          refine evR_e hK ?_; clear hK K
          refine hK22 _ ?_
          refine tr_ret ?_
          (try simp only [thenE, inBlkE])
          simp (maxSteps := 4000000) (disch := first | assumption | omega | (simp only [go_sem, *]; done) | (simp only [go_sem, *]; omega)) only [postA, postO, resV1, fzAll, go_sem, hq, Int.reduceToNat, Nat.reduceBEq, Nat.reduceEqDiff, Nat.reduceAdd, Nat.reduceMul, Nat.reduceLeDiff, Nat.reduceLT, Nat.reduceSub, ↓reduceIte, reduceCtorEq]
          all_goals (first | (rw [valid_len ht1]; done) | (rw [valid_sp hil hpi ht3]; done) | (rw [valid_bad ht1 hpi ht4]; done) | (rw [valid_good ht1 hpi ht4, ofCmp_fun, p2Cmp_fun, intCmp_fun]; simp [Bool.and_assoc]; done))

end Go.Proofs.YtaaongcfeldcoaaDoor


namespace Go.Proofs.YtaaongcfeldcoaaDoor
open Go.RowKit
set_option linter.unusedVariables false
set_option linter.unusedSimpArgs false
set_option maxRecDepth 100000
attribute [local go_sem] Nat.zero_add Nat.add_zero Nat.mul_one eq_self ne_eq not_true_eq_false not_false_eq_true decide_true decide_false decide_not Bool.false_eq_true List.filter_cons List.filter_nil true_and and_true beq_false beq_true Bool.not_true Bool.not_false Bool.and_true Bool.true_and Option.getD_some Option.getD_none imp_self implies_true Int.toNat_natCast List.cons_append List.nil_append List.map_cons List.map_nil List.length_cons List.length_nil List.getD_cons_zero List.getD_cons_succ List.drop_zero List.drop_succ_cons List.take_succ_cons List.take_zero
attribute [local go_sem] lowN lowQ lowM isAl appOwn unw appF isE isO stpO notIn St.bare evO evDO isEff stp St.get St.slot St.put List.lookup un unL ofVal gof nth pickV pkB_false pkB_true binV unV loadV idxV fldV partV buildV fillV lenV sliV appV appR rowsV winV V.parts V.okp V.sc Mem.look_cons Mem.look_nil V.cl V.clL AObj.clo fzAll exps St.fz Mem.fz V.fz V.fzL AObj.fz Option.isSome_some Option.isSome_none Bool.or_true Bool.true_or Bool.or_false Bool.false_or false_and and_false false_or or_false arT_112 arT_22 arT_23 arT_27 arT_28 arT_29 arT_33 arT_52 arT_57 arT_65 arT_76 arT_77 arT_84 arT_88 arT_9 arT_95 boolT_133 boolT_29 boolT_3 boolT_36 boolT_4 boolT_70 boolT_92 flatT_133 flatT_29 flatT_3 flatT_36 flatT_4 flatT_70 flatT_92 intT_121 intT_142 intT_144 intT_145 intT_3 intT_5 lay_110 lay_145 lay_22 lay_23 lay_25 lay_27 lay_28 lay_29 lay_3 lay_31 lay_33 lay_35 lay_4 lay_42 lay_51 lay_56 lay_57 lay_59 lay_70 lay_73 lay_77 lay_79 lay_81 lay_83 lay_84 lay_85 lay_88 lay_92 lay_94 lay_95 okF_10 okF_100 okF_101 okF_102 okF_103 okF_104 okF_105 okF_11 okF_12 okF_122 okF_123 okF_124 okF_125 okF_126 okF_127 okF_13 okF_14 okF_15 okF_16 okF_17 okF_18 okF_19 okF_20 okF_21 okF_22 okF_23 okF_24 okF_25 okF_26 okF_27 okF_28 okF_29 okF_3 okF_30 okF_31 okF_32 okF_33 okF_34 okF_35 okF_36 okF_37 okF_38 okF_39 okF_4 okF_40 okF_41 okF_42 okF_43 okF_44 okF_45 okF_46 okF_47 okF_48 okF_49 okF_5 okF_50 okF_51 okF_52 okF_53 okF_54 okF_55 okF_56 okF_57 okF_58 okF_59 okF_6 okF_60 okF_61 okF_62 okF_63 okF_64 okF_65 okF_66 okF_67 okF_68 okF_69 okF_7 okF_70 okF_71 okF_72 okF_73 okF_74 okF_75 okF_76 okF_77 okF_78 okF_79 okF_8 okF_80 okF_81 okF_82 okF_83 okF_84 okF_85 okF_86 okF_87 okF_88 okF_89 okF_9 okF_90 okF_91 okF_92 okF_93 okF_94 okF_95 okF_96 okF_97 okF_98 okF_99 plT_31 plT_35 plT_51 plT_56 plT_59 plT_70 plT_73 plT_90 plT_92 plT_95 slT_112 slT_22 slT_23 slT_27 slT_28 slT_29 slT_33 slT_52 slT_57 slT_65 slT_76 slT_77 slT_88 slT_95 stT_25_0 stT_25_1 stT_25_2 stT_25_3 stT_25_4 stT_31_0 stT_31_1 stT_31_2 stT_31_3 stT_35_0 stT_35_1 stT_35_2 stT_35_3 stT_51_0 stT_51_1 stT_56_0 stT_56_1 stT_56_2 stT_56_3 stT_59_0 stT_59_1 stT_59_2 stT_73_0 stT_73_3 stT_73_4 stT_73_5 stT_79_0 stT_79_1 stT_79_2 stT_83_0 stT_90_0 stT_90_1 stT_90_2 stT_90_3 strT_76 strT_77 strT_84 strT_9 zeroT_112 zeroT_145 zeroT_3 zeroT_31 zeroT_33 zeroT_35 zeroT_42 zeroT_51 zeroT_56 zeroT_57 zeroT_59 zeroT_70 zeroT_73 zeroT_79 zeroT_83 zeroT_90 zeroT_92 zeroT_95
attribute [local go_sem] List.getElem?_cons_zero List.getElem?_cons_succ List.zip_cons_cons List.zip_nil_left List.zip_nil_right Bool.false_and Bool.and_false List.length_append List.length_set List.length_replicate List.all_cons List.all_nil encI_length encI_getD encR_length encR_getD encRw encPg spl shp AObj.shp rowM isSt isRpS isRd csh AObj.csh forall_const imp_self
attribute [local go_sem] encHr encOf encSp encP2 encSps_length encOfs_length encP2s_length encSps_getD encOfs_getD encP2s_getD
attribute [local simp] encI_length encR_length cellsI_length encSps_length encOfs_length encP2s_length
theorem k74 (o : Of) (k : Nat) : CallsA Tryd.prog 74 [.agg (encOf o), .ep [.int .i64 (k : Nat)]] (.int .i64 (roomC k o)) := by
  have hq : True := trivial
  refine callsA_of_tr Tryd.func74 rfl (Nat.le_of_ble_eq_true rfl) ?_
  simp only [Tryd.results74, envOf, Nat.reduceAdd]
  refine tr_seq fun K1 hK1 => ?_
  refine tr_region [1, 2] rfl rfl fun K hK => ?_
  iterate 2 refine evR_p ?_
  refine evR_e hK ?_; clear hK K
  refine hK1 _ ?_
  refine tr_seq fun K2 hK2 => ?_
  refine tr_seq fun K3 hK3 => ?_
  refine tr_region [2, 7] rfl rfl fun K hK => ?_
  iterate 4 refine evR_p ?_
  refine evR_e hK ?_; clear hK K
  refine hK3 _ ?_
  refine tr_condB (fun ht1 => ?_) (fun ht1 => ?_)
  · skip
    refine tr_seq fun K4 hK4 => ?_
    refine tr_region [3] rfl rfl fun K hK => ?_
    iterate 3 refine evR_p ?_
    refine evR_e hK ?_; clear hK K
    refine hK4 _ ?_
    refine tr_ret ?_
    (try simp only [thenE, inBlkE])
    simp (maxSteps := 4000000) (disch := first | assumption | omega | (simp only [go_sem, *]; done) | (simp only [go_sem, *]; omega)) only [postA, postO, resV1, fzAll, go_sem, hq, Int.reduceToNat, Nat.reduceBEq, Nat.reduceEqDiff, Nat.reduceAdd, Nat.reduceMul, Nat.reduceLeDiff, Nat.reduceLT, Nat.reduceSub, ↓reduceIte, reduceCtorEq]
    all_goals ((unfold roomC; first | (rw [if_pos (by assumption)]; done) | (rw [if_neg (by assumption)]; done)))
  · skip
    refine tr_skip ?_
    (try simp only [thenE, inBlkE])
    refine hK2 _ ?_
    refine tr_seq fun K5 hK5 => ?_
    refine tr_region [3] rfl rfl fun K hK => ?_
    refine evR_p ?_
    refine evR_e hK ?_; clear hK K
    refine hK5 _ ?_
    refine tr_ret ?_
    (try simp only [thenE, inBlkE])
    simp (maxSteps := 4000000) (disch := first | assumption | omega | (simp only [go_sem, *]; done) | (simp only [go_sem, *]; omega)) only [postA, postO, resV1, fzAll, go_sem, hq, Int.reduceToNat, Nat.reduceBEq, Nat.reduceEqDiff, Nat.reduceAdd, Nat.reduceMul, Nat.reduceLeDiff, Nat.reduceLT, Nat.reduceSub, ↓reduceIte, reduceCtorEq]
    all_goals ((unfold roomC; first | (rw [if_pos (by assumption)]; done) | (rw [if_neg (by assumption)]; done)))

theorem k75 (o : Of) (n : Int) : CallsA Tryd.prog 75 [.agg (encOf o), .ep [.int .i64 n]] (.bool (isP n o)) := by
  have hq : True := trivial
  refine callsA_of_tr Tryd.func75 rfl (Nat.le_of_ble_eq_true rfl) ?_
  simp only [Tryd.results75, envOf, Nat.reduceAdd]
  refine tr_seq fun K1 hK1 => ?_
  refine tr_region [1, 2] rfl rfl fun K hK => ?_
  iterate 2 refine evR_p ?_
  refine evR_e hK ?_; clear hK K
  refine hK1 _ ?_
  refine tr_seq fun K2 hK2 => ?_
  refine tr_region [3] rfl rfl fun K hK => ?_
  iterate 5 refine evR_p ?_
  refine evR_e hK ?_; clear hK K
  refine hK2 _ ?_
  refine tr_ret ?_
  (try simp only [thenE, inBlkE])
  simp (maxSteps := 4000000) (disch := first | assumption | omega | (simp only [go_sem, *]; done) | (simp only [go_sem, *]; omega)) only [postA, postO, resV1, fzAll, go_sem, hq, Int.reduceToNat, Nat.reduceBEq, Nat.reduceEqDiff, Nat.reduceAdd, Nat.reduceMul, Nat.reduceLeDiff, Nat.reduceLT, Nat.reduceSub, ↓reduceIte, reduceCtorEq]
  all_goals (rfl)

theorem k77 (o : Of) (n : Int) : CallsA Tryd.prog 77 [.agg (encOf o), .ep [.int .i64 n]] (.bool (isP n o)) := by
  have hq : True := trivial
  refine callsA_of_tr Tryd.func77 rfl (Nat.le_of_ble_eq_true rfl) ?_
  simp only [Tryd.results77, envOf, Nat.reduceAdd]
  refine tr_seq fun K1 hK1 => ?_
  refine tr_region [1, 2] rfl rfl fun K hK => ?_
  iterate 2 refine evR_p ?_
  refine evR_e hK ?_; clear hK K
  refine hK1 _ ?_
  refine tr_seq fun K2 hK2 => ?_
  refine tr_region [3] rfl rfl fun K hK => ?_
  iterate 5 refine evR_p ?_
  refine evR_e hK ?_; clear hK K
  refine hK2 _ ?_
  refine tr_ret ?_
  (try simp only [thenE, inBlkE])
  simp (maxSteps := 4000000) (disch := first | assumption | omega | (simp only [go_sem, *]; done) | (simp only [go_sem, *]; omega)) only [postA, postO, resV1, fzAll, go_sem, hq, Int.reduceToNat, Nat.reduceBEq, Nat.reduceEqDiff, Nat.reduceAdd, Nat.reduceMul, Nat.reduceLeDiff, Nat.reduceLT, Nat.reduceSub, ↓reduceIte, reduceCtorEq]
  all_goals (rfl)

theorem k76 (o : Of) (k : Nat) (a : P2) : CallsA Tryd.prog 76 [.agg (encOf o), .ep [.int .i64 (k : Nat)], .ep (encP2 a)] (.bool (isA a k o)) := by
  have hq : True := trivial
  refine callsA_of_tr Tryd.func76 rfl (Nat.le_of_ble_eq_true rfl) ?_
  simp only [Tryd.results76, envOf, Nat.reduceAdd]
  refine tr_seq fun K1 hK1 => ?_
  refine tr_region [1, 2, 3] rfl rfl fun K hK => ?_
  iterate 2 refine evR_p ?_
  refine evR_e hK ?_; clear hK K
  refine hK1 _ ?_
  refine tr_seq fun K2 hK2 => ?_
  refine tr_region [4] rfl rfl fun K hK => ?_
  iterate 5 refine evR_p ?_
  iterate 12 refine evR_g ?_
  iterate 2 refine evR_p ?_
  refine evR_e hK ?_; clear hK K
  refine hK2 _ ?_
  refine tr_ret ?_
  (try simp only [thenE, inBlkE])
  simp (maxSteps := 4000000) (disch := first | assumption | omega | (simp only [go_sem, *]; done) | (simp only [go_sem, *]; omega)) only [postA, postO, resV1, fzAll, go_sem, hq, Int.reduceToNat, Nat.reduceBEq, Nat.reduceEqDiff, Nat.reduceAdd, Nat.reduceMul, Nat.reduceLeDiff, Nat.reduceLT, Nat.reduceSub, ↓reduceIte, reduceCtorEq]
  all_goals (simp [isA])

theorem k73 (o : Of) (f : FuncId) (caps : List V) (n : Int) (is : Of → Bool) (hok : okF Tryd.prog f = true) (hcl : V.clL caps = true) (hp : CallsA Tryd.prog f (.agg (encOf o) :: caps) (.bool (is o))) : CallsA Tryd.prog 73 [.agg (encOf o), .ep [.fn f caps], .ep [.int .i64 n]] (.int .i64 (oneC n is o)) := by
  have hq := And.intro hcl (hok)
  refine callsA_of_tr Tryd.func73 rfl (Nat.le_of_ble_eq_true rfl) ?_
  simp only [Tryd.results73, envOf, Nat.reduceAdd]
  refine tr_seq fun K1 hK1 => ?_
  refine tr_region [1, 2, 3] rfl rfl fun K hK => ?_
  iterate 2 refine evR_p ?_
  refine evR_e hK ?_; clear hK K
  refine hK1 _ ?_
  refine tr_seq fun K2 hK2 => ?_
  refine tr_seq fun K3 hK3 => ?_
  refine tr_region [2, 7] rfl rfl fun K hK => ?_
  iterate 2 refine evR_p ?_
  refine evR_c (hc := hp) (k := ?_)
  refine evR_e hK ?_; clear hK K
  refine hK3 _ ?_
  refine tr_condB (fun ht1 => ?_) (fun ht1 => ?_)
  · skip
    refine tr_seq fun K4 hK4 => ?_
    refine tr_region [4] rfl rfl fun K hK => ?_
    iterate 2 refine evR_p ?_
    refine evR_e hK ?_; clear hK K
    refine hK4 _ ?_
    refine tr_ret ?_
    (try simp only [thenE, inBlkE])
    simp (maxSteps := 4000000) (disch := first | assumption | omega | (simp only [go_sem, *]; done) | (simp only [go_sem, *]; omega)) only [postA, postO, resV1, fzAll, go_sem, hq, Int.reduceToNat, Nat.reduceBEq, Nat.reduceEqDiff, Nat.reduceAdd, Nat.reduceMul, Nat.reduceLeDiff, Nat.reduceLT, Nat.reduceSub, ↓reduceIte, reduceCtorEq]
    all_goals ((unfold oneC; first | (rw [if_pos (by assumption)]; done) | (rw [if_neg (by simp [*])]; done)))
  · skip
    refine tr_skip ?_
    (try simp only [thenE, inBlkE])
    refine hK2 _ ?_
    refine tr_seq fun K5 hK5 => ?_
    refine tr_region [4] rfl rfl fun K hK => ?_
    refine evR_p ?_
    refine evR_e hK ?_; clear hK K
    refine hK5 _ ?_
    refine tr_ret ?_
    (try simp only [thenE, inBlkE])
    simp (maxSteps := 4000000) (disch := first | assumption | omega | (simp only [go_sem, *]; done) | (simp only [go_sem, *]; omega)) only [postA, postO, resV1, fzAll, go_sem, hq, Int.reduceToNat, Nat.reduceBEq, Nat.reduceEqDiff, Nat.reduceAdd, Nat.reduceMul, Nat.reduceLeDiff, Nat.reduceLT, Nat.reduceSub, ↓reduceIte, reduceCtorEq]
    all_goals ((unfold oneC; first | (rw [if_pos (by assumption)]; done) | (rw [if_neg (by simp [*])]; done)))

theorem k72 (f : FuncId) (caps : List V) (n : Int) (hcl : V.clL caps = true) : CallsA Tryd.prog 72 [.fn f caps, .int .i64 n] (.fn 73 [.ep [.fn f caps], .ep [.int .i64 n]]) := by
  have hfz := fun id o => V.fzL_cl id o caps hcl
  have hq := And.intro hcl (hfz)
  refine callsA_of_tr Tryd.func72 rfl (Nat.le_of_ble_eq_true rfl) ?_
  simp only [Tryd.results72, envOf, Nat.reduceAdd]
  refine tr_seq fun K1 hK1 => ?_
  refine tr_region [2, 3] rfl rfl fun K hK => ?_
  iterate 3 refine evR_p ?_
  refine evR_e hK ?_; clear hK K
  refine hK1 _ ?_
  refine tr_seq fun K2 hK2 => ?_
  refine tr_fz [.ptr 0 0, .ptr 1 0] (by simp (maxSteps := 4000000) (disch := first | assumption | omega | (simp only [go_sem, *]; done) | (simp only [go_sem, *]; omega)) only [go_sem, hq, Int.reduceToNat, Nat.reduceBEq, Nat.reduceEqDiff, Nat.reduceAdd, Nat.reduceMul, Nat.reduceLeDiff, Nat.reduceLT, Nat.reduceSub, ↓reduceIte, reduceCtorEq]; (try rfl)) ?_
  refine tr_region [4] rfl rfl fun K hK => ?_
  iterate 2 refine evR_p ?_
  refine evR_e hK ?_; clear hK K
  refine hK2 _ ?_
  refine tr_ret ?_
  (try simp only [thenE, inBlkE])
  simp (maxSteps := 4000000) (disch := first | assumption | omega | (simp only [go_sem, *]; done) | (simp only [go_sem, *]; omega)) only [postA, postO, resV1, fzAll, go_sem, hq, Int.reduceToNat, Nat.reduceBEq, Nat.reduceEqDiff, Nat.reduceAdd, Nat.reduceMul, Nat.reduceLeDiff, Nat.reduceLT, Nat.reduceSub, ↓reduceIte, reduceCtorEq]
  all_goals (rfl)

theorem k71 (a : List Rw) (r : Rw) (hl : a.length ≤ 1000) : CallsM Tryd.prog 71 [.sl 6 (encR [r]), .ptr 0 0] ([(1, .row 73 6 (encR a)), (0, .cells [.own 1])]) (2) (.tup []) ([(2, .row 73 6 (encR (a ++ [r]))), (0, .cells [.own 2])]) (3) := by
  have hq : True := trivial
  refine callsM_of_tr Tryd.func71 rfl (Nat.le_of_ble_eq_true rfl) (Nat.le_of_ble_eq_true rfl) (Nat.le_of_ble_eq_true rfl) ?_
  simp only [Tryd.results71, envOf, gh, gv, List.cons_append, List.nil_append, Nat.reduceAdd]
  refine tr_region [1000000, 1000001] rfl rfl fun K hK => ?_
  iterate 4 refine evR_p ?_
  refine evR_e hK ?_; clear hK K
  all_goals first | refine ⟨_, Wk.refl _, ?_⟩
  simp (maxSteps := 4000000) (disch := first | assumption | omega | (simp only [go_sem, *]; done) | (simp only [go_sem, *]; omega)) only [postM, ghOK, gv, St.ren, St.cut, V.ren, V.renL, AObj.ren, Nat.blt_eq, resV1, go_sem, hq, Int.reduceToNat, Nat.reduceBEq, Nat.reduceEqDiff, Nat.reduceAdd, Nat.reduceMul, Nat.reduceLeDiff, Nat.reduceLT, Nat.reduceSub, ↓reduceIte, reduceCtorEq]
  all_goals ((rw [show encR (a ++ [r]) = encR a ++ encR [r] by simp [encR]]))

section
attribute [local go_sem] encI_rep encI_set
theorem k70 (h : Hr) (hol : h.offers.length ≤ 12) (kd a b pl most : Int) (g : FuncId) (caps : List V) (c : Of → Int) (hok : okF Tryd.prog g = true) (hcl : V.clL caps = true) (hp : ∀ o ∈ h.offers, CallsA Tryd.prog g (.agg (encOf o) :: caps) (.int .i64 (c o))) : CallsA Tryd.prog 70 [.agg [.int .i64 kd, .int .i64 a, .int .i64 b, .int .i64 pl, .nsl, .int .i64 most], .fn g caps, .ep (encHr h)] (.tup [.agg (encRw ⟨kd, a, b, pl, coefF h c, most⟩), .int .i64 (nzF h c : Nat)]) := by
  have hq := And.intro hcl (hok)
  refine callsA_of_tr Tryd.func70 rfl (Nat.le_of_ble_eq_true rfl) ?_
  simp only [Tryd.results70, envOf, Nat.reduceAdd]
  refine tr_seq fun K1 hK1 => ?_
  refine tr_region [1, 2, 3, 5] rfl rfl fun K hK => ?_
  iterate 3 refine evR_p ?_
  refine evR_e hK ?_; clear hK K
  refine hK1 _ ?_
  refine tr_seq fun K2 hK2 => ?_
  refine tr_region [1, 2, 3, 5, 7] rfl rfl fun K hK => ?_
  refine evR_p ?_
  refine evR_e hK ?_; clear hK K
  refine hK2 _ ?_
  refine tr_seq fun K3 hK3 => ?_
  refine tr_region [1, 2, 3, 5, 7] rfl rfl fun K hK => ?_
  iterate 6 refine evR_p ?_
  refine evR_e hK ?_; clear hK K
  refine hK3 _ ?_
  refine tr_seq fun K4 hK4 => ?_
  refine tr_seq fun K5 hK5 => ?_
  refine tr_region [1, 3, 5, 7, 16, 17, 18] rfl rfl fun K hK => ?_
  iterate 4 refine evR_p ?_
  refine evR_e hK ?_; clear hK K
  refine hK5 _ ?_
  refine tr_block ?_
  -- loop 1: live [1, 3, 5, 7, 16, 17, 18]
  refine tr_loopW (fun m σ => ∃ i : Nat, i + m = h.offers.length ∧ σ = ⟨[(1, .fn g caps), (3, .ptr 0 0), (5, .ptr 1 0), (7, .int .i64 (nzT h c i : Nat)), (16, .sl 4 (encOfs h.offers)), (17, .int .i64 h.offers.length), (18, .int .i64 (i : Nat))], [(2, .row 3 1 (encI (coefP h c i))), (1, .cells [.int .i64 0, .int .i64 0, .int .i64 0, .int .i64 0, .nsl, .int .i64 0]), (0, .cells [.int .i64 kd, .int .i64 a, .int .i64 b, .int .i64 pl, .own 2, .int .i64 most])], 3⟩) (h.offers.length) ?_ ?_
  · exact ⟨_, Wk.refl _, 0, by omega, by rw [coefP_0]; rfl⟩
  · rintro m σ ⟨i, hi, rfl⟩ KL1 hKL1
    refine tr_seq fun K6 hK6 => ?_
    refine tr_region [1, 3, 5, 7, 16, 17, 18, 19] rfl rfl fun K hK => ?_
    refine evR_p ?_
    refine evR_e hK ?_; clear hK K
    refine hK6 _ ?_
    refine tr_seq fun K7 hK7 => ?_
    refine tr_condB (fun ht1 => ?_) (fun ht1 => ?_)
    · skip
      have hil : i < h.offers.length := by omega
      have hcl2 := coefP_length h c (Nat.le_of_lt hil)
      have hset := coefP_set h c hil
      have hgs : (coefP h c (i + 1)).getD i 0 = c (h.offers.getD i of0) := by rw [← hset, getD_set (by omega), if_pos rfl]
      have hnz := nzT_le h c i
      have hcl3 := coefP_length h c (i := i + 1) hil
      replace hq := And.intro hq (And.intro hil (And.intro hcl2 (And.intro hset (And.intro hgs (hcl3)))))
      refine tr_skip ?_
      (try simp only [thenE, inBlkE])
      refine hK7 _ ?_
      refine tr_seq fun K8 hK8 => ?_
      refine tr_block ?_
      refine tr_seq fun K9 hK9 => ?_
      refine tr_region [1, 3, 5, 7, 8, 9, 16, 17, 18] rfl rfl fun K hK => ?_
      iterate 6 refine evR_p ?_
      refine evR_e hK ?_; clear hK K
      refine hK9 _ ?_
      refine tr_seq fun K10 hK10 => ?_
      refine tr_draw [999999] [1, 3, 5, 7, 8, 16, 17, 18] mixed rfl (by kernel_rfl) rfl fun K hK => ?_
      iterate 5 refine evD_p ?_
      refine evD_c (hc := (hp _ (getD_mem hil))) (k := ?_)
      iterate 2 refine evD_p ?_
      refine evD_e hK ?_; clear hK K
      refine hK10 _ ?_
      refine tr_seq fun K11 hK11 => ?_
      refine tr_region [1, 3, 5, 7, 16, 17, 18, 35] rfl rfl fun K hK => ?_
      iterate 6 refine evR_p ?_
      refine evR_e hK ?_; clear hK K
      refine hK11 _ ?_
      refine tr_condB (fun ht2 => ?_) (fun ht2 => ?_)
      · skip
        refine tr_region [1, 3, 5, 7, 16, 17, 18] rfl rfl fun K hK => ?_
        iterate 3 refine evR_p ?_
        refine evR_e hK ?_; clear hK K
        refine hK8 _ ?_
        refine tr_region [1, 3, 5, 7, 16, 17, 18] rfl rfl fun K hK => ?_
        iterate 2 refine evR_p ?_
        refine evR_e hK ?_; clear hK K
        refine hKL1 _ ?_
        exact ⟨m - 1, _, by omega, Wk.cut 3 (by simp [St.cutOK, AObj.upto, V.upto, V.uptoL, cellsI_uptoL, List.all_cons, List.all_nil, List.filter_cons, List.filter_nil, Nat.blt_eq, Nat.reduceLT, Nat.lt_irrefl, decide_true, decide_false, Bool.and_self, Bool.and_true, Bool.true_and, if_true, if_false, ↓reduceIte, Bool.false_eq_true, encHr, encP2, V.uptoL_cl 3 caps hcl]), i + 1, by omega, by (rw [w64 (x := (i : Int) + 1) (by omega)]; first | (rw [w64 (x := ((nzT h c i : Nat) : Int) + 1) (by omega), show nzT h c (i + 1) = nzT h c i + 1 from if_neg (by assumption)]; rfl) | (rw [show nzT h c (i + 1) = nzT h c i from if_pos (by assumption)]; rfl))⟩
      · skip
        refine tr_skip ?_
        (try simp only [thenE, inBlkE])
        refine hK8 _ ?_
        refine tr_region [1, 3, 5, 7, 16, 17, 18] rfl rfl fun K hK => ?_
        iterate 2 refine evR_p ?_
        refine evR_e hK ?_; clear hK K
        refine hKL1 _ ?_
        exact ⟨m - 1, _, by omega, Wk.cut 3 (by simp [St.cutOK, AObj.upto, V.upto, V.uptoL, cellsI_uptoL, List.all_cons, List.all_nil, List.filter_cons, List.filter_nil, Nat.blt_eq, Nat.reduceLT, Nat.lt_irrefl, decide_true, decide_false, Bool.and_self, Bool.and_true, Bool.true_and, if_true, if_false, ↓reduceIte, Bool.false_eq_true, encHr, encP2, V.uptoL_cl 3 caps hcl]), i + 1, by omega, by (rw [w64 (x := (i : Int) + 1) (by omega)]; first | (rw [w64 (x := ((nzT h c i : Nat) : Int) + 1) (by omega), show nzT h c (i + 1) = nzT h c i + 1 from if_neg (by assumption)]; rfl) | (rw [show nzT h c (i + 1) = nzT h c i from if_pos (by assumption)]; rfl))⟩
    · skip
      have hil : i = h.offers.length := by omega
      subst hil
      refine tr_exit ?_
      simp only [thenE, inBlkE, Nat.reduceEqDiff, ↓reduceIte]
      refine hK4 _ ?_
      refine tr_seq fun K12 hK12 => ?_
      refine tr_region [5, 6] rfl rfl fun K hK => ?_
      iterate 4 refine evR_p ?_
      refine evR_e hK ?_; clear hK K
      refine hK12 _ ?_
      refine tr_ret ?_
      (try simp only [thenE, inBlkE])
      simp (maxSteps := 4000000) (disch := first | assumption | omega | (simp only [go_sem, *]; done) | (simp only [go_sem, *]; omega)) only [postA, postO, resV1, fzAll, go_sem, hq, Int.reduceToNat, Nat.reduceBEq, Nat.reduceEqDiff, Nat.reduceAdd, Nat.reduceMul, Nat.reduceLeDiff, Nat.reduceLT, Nat.reduceSub, ↓reduceIte, reduceCtorEq]
      all_goals ((rw [coefP_end, nzT_end]; done))
end

end Go.Proofs.YtaaongcfeldcoaaDoor


namespace Go.Proofs.YtaaongcfeldcoaaDoor
open Go.RowKit
set_option linter.unusedVariables false
set_option linter.unusedSimpArgs false
set_option maxRecDepth 100000
attribute [local go_sem] Nat.zero_add Nat.add_zero Nat.mul_one eq_self ne_eq not_true_eq_false not_false_eq_true decide_true decide_false decide_not Bool.false_eq_true List.filter_cons List.filter_nil true_and and_true beq_false beq_true Bool.not_true Bool.not_false Bool.and_true Bool.true_and Option.getD_some Option.getD_none imp_self implies_true Int.toNat_natCast List.cons_append List.nil_append List.map_cons List.map_nil List.length_cons List.length_nil List.getD_cons_zero List.getD_cons_succ List.drop_zero List.drop_succ_cons List.take_succ_cons List.take_zero
attribute [local go_sem] lowN lowQ lowM isAl appOwn unw appF isE isO stpO notIn St.bare evO evDO isEff stp St.get St.slot St.put List.lookup un unL ofVal gof nth pickV pkB_false pkB_true binV unV loadV idxV fldV partV buildV fillV lenV sliV appV appR rowsV winV V.parts V.okp V.sc Mem.look_cons Mem.look_nil V.cl V.clL AObj.clo fzAll exps St.fz Mem.fz V.fz V.fzL AObj.fz Option.isSome_some Option.isSome_none Bool.or_true Bool.true_or Bool.or_false Bool.false_or false_and and_false false_or or_false arT_112 arT_22 arT_23 arT_27 arT_28 arT_29 arT_33 arT_52 arT_57 arT_65 arT_76 arT_77 arT_84 arT_88 arT_9 arT_95 boolT_133 boolT_29 boolT_3 boolT_36 boolT_4 boolT_70 boolT_92 flatT_133 flatT_29 flatT_3 flatT_36 flatT_4 flatT_70 flatT_92 intT_121 intT_142 intT_144 intT_145 intT_3 intT_5 lay_110 lay_145 lay_22 lay_23 lay_25 lay_27 lay_28 lay_29 lay_3 lay_31 lay_33 lay_35 lay_4 lay_42 lay_51 lay_56 lay_57 lay_59 lay_70 lay_73 lay_77 lay_79 lay_81 lay_83 lay_84 lay_85 lay_88 lay_92 lay_94 lay_95 okF_10 okF_100 okF_101 okF_102 okF_103 okF_104 okF_105 okF_11 okF_12 okF_122 okF_123 okF_124 okF_125 okF_126 okF_127 okF_13 okF_14 okF_15 okF_16 okF_17 okF_18 okF_19 okF_20 okF_21 okF_22 okF_23 okF_24 okF_25 okF_26 okF_27 okF_28 okF_29 okF_3 okF_30 okF_31 okF_32 okF_33 okF_34 okF_35 okF_36 okF_37 okF_38 okF_39 okF_4 okF_40 okF_41 okF_42 okF_43 okF_44 okF_45 okF_46 okF_47 okF_48 okF_49 okF_5 okF_50 okF_51 okF_52 okF_53 okF_54 okF_55 okF_56 okF_57 okF_58 okF_59 okF_6 okF_60 okF_61 okF_62 okF_63 okF_64 okF_65 okF_66 okF_67 okF_68 okF_69 okF_7 okF_70 okF_71 okF_72 okF_73 okF_74 okF_75 okF_76 okF_77 okF_78 okF_79 okF_8 okF_80 okF_81 okF_82 okF_83 okF_84 okF_85 okF_86 okF_87 okF_88 okF_89 okF_9 okF_90 okF_91 okF_92 okF_93 okF_94 okF_95 okF_96 okF_97 okF_98 okF_99 plT_31 plT_35 plT_51 plT_56 plT_59 plT_70 plT_73 plT_90 plT_92 plT_95 slT_112 slT_22 slT_23 slT_27 slT_28 slT_29 slT_33 slT_52 slT_57 slT_65 slT_76 slT_77 slT_88 slT_95 stT_25_0 stT_25_1 stT_25_2 stT_25_3 stT_25_4 stT_31_0 stT_31_1 stT_31_2 stT_31_3 stT_35_0 stT_35_1 stT_35_2 stT_35_3 stT_51_0 stT_51_1 stT_56_0 stT_56_1 stT_56_2 stT_56_3 stT_59_0 stT_59_1 stT_59_2 stT_73_0 stT_73_3 stT_73_4 stT_73_5 stT_79_0 stT_79_1 stT_79_2 stT_83_0 stT_90_0 stT_90_1 stT_90_2 stT_90_3 strT_76 strT_77 strT_84 strT_9 zeroT_112 zeroT_145 zeroT_3 zeroT_31 zeroT_33 zeroT_35 zeroT_42 zeroT_51 zeroT_56 zeroT_57 zeroT_59 zeroT_70 zeroT_73 zeroT_79 zeroT_83 zeroT_90 zeroT_92 zeroT_95
attribute [local go_sem] List.getElem?_cons_zero List.getElem?_cons_succ List.zip_cons_cons List.zip_nil_left List.zip_nil_right Bool.false_and Bool.and_false List.length_append List.length_set List.length_replicate List.all_cons List.all_nil encI_length encI_getD encR_length encR_getD encRw encPg spl shp AObj.shp rowM isSt isRpS isRd csh AObj.csh forall_const imp_self
attribute [local go_sem] encHr encOf encSp encP2 encSps_length encOfs_length encP2s_length encSps_getD encOfs_getD encP2s_getD
attribute [local simp] encI_length encR_length cellsI_length encSps_length encOfs_length encP2s_length
set_option maxHeartbeats 16000000 in
theorem k50 (h : Hr) (hV : VH h) : CallsA Tryd.prog 50 [.agg (encHr h)] (.sl 6 (encR (rowsH h))) := by
  have hrl := hV.rl
  have hol := hV.ol
  have hal := hV.al
  have hml := hV.ml
  have hl2 := onceRs_len h
  have hq : True := trivial
  refine callsA_of_tr Tryd.func50 rfl (Nat.le_of_ble_eq_true rfl) ?_
  simp only [Tryd.results50, envOf, Nat.reduceAdd]
  refine tr_seq fun K1 hK1 => ?_
  refine tr_region [1] rfl rfl fun K hK => ?_
  iterate 2 refine evR_p ?_
  refine evR_e hK ?_; clear hK K
  refine hK1 _ ?_
  refine tr_seq fun K2 hK2 => ?_
  refine tr_fz [.ptr 0 0] (by simp (maxSteps := 4000000) (disch := first | assumption | omega | (simp only [go_sem, *]; done) | (simp only [go_sem, *]; omega)) only [go_sem, hq, Int.reduceToNat, Nat.reduceBEq, Nat.reduceEqDiff, Nat.reduceAdd, Nat.reduceMul, Nat.reduceLeDiff, Nat.reduceLT, Nat.reduceSub, ↓reduceIte, reduceCtorEq]; (try rfl)) ?_
  refine tr_region [1, 3] rfl rfl fun K hK => ?_
  iterate 2 refine evR_p ?_
  refine evR_e hK ?_; clear hK K
  refine hK2 _ ?_
  refine tr_seq fun K3 hK3 => ?_
  refine tr_region [1, 3, 4] rfl rfl fun K hK => ?_
  refine evR_p ?_
  refine evR_e hK ?_; clear hK K
  refine hK3 _ ?_
  refine tr_seq fun K4 hK4 => ?_
  refine tr_region [1, 3, 4, 5] rfl rfl fun K hK => ?_
  iterate 2 refine evR_p ?_
  refine evR_e hK ?_; clear hK K
  refine hK4 _ ?_
  refine tr_seq fun K5 hK5 => ?_
  refine tr_region [1, 3, 4, 5, 6] rfl rfl fun K hK => ?_
  refine evR_p ?_
  refine evR_e hK ?_; clear hK K
  refine hK5 _ ?_
  refine tr_seq fun K6 hK6 => ?_
  refine tr_seq fun K7 hK7 => ?_
  refine tr_region [1, 3, 4, 5, 6, 27, 28, 29] rfl rfl fun K hK => ?_
  iterate 4 refine evR_p ?_
  refine evR_e hK ?_; clear hK K
  refine hK7 _ ?_
  refine tr_block ?_
  -- loop 1: live [1, 3, 4, 5, 6, 27, 28, 29]
  refine tr_loopW (fun m σ => ∃ i : Nat, i + m = h.rooms.length ∧ σ = ⟨[(1, .ep (encHr h)), (3, .fn 70 [.ep (encHr h)]), (4, .ptr 1 0), (5, .fn 71 [.ptr 1 0]), (6, .fn 72 []), (27, .sl 2 (encSps h.rooms)), (28, .int .i64 h.rooms.length), (29, .int .i64 (i : Nat))], [(2, .row 73 6 (encR (roomRs h i))), (1, .cells [.own 2])], 3⟩) (h.rooms.length) ?_ ?_
  · exact ⟨_, Wk.nilown 73 6 1 0 rfl (Nat.le_of_ble_eq_true rfl) rfl, 0, by omega, rfl⟩
  · rintro m σ ⟨i, hi, rfl⟩ KL1 hKL1
    refine tr_seq fun K8 hK8 => ?_
    refine tr_region [1, 3, 4, 5, 6, 27, 28, 29, 30] rfl rfl fun K hK => ?_
    refine evR_p ?_
    refine evR_e hK ?_; clear hK K
    refine hK8 _ ?_
    refine tr_seq fun K9 hK9 => ?_
    refine tr_condB (fun ht1 => ?_) (fun ht1 => ?_)
    · skip
      have hil : i < h.rooms.length := by omega
      have hrm := hV.rm i hil
      have hw : IntKind.i64.wrap ((h.rooms.getD i sp0).to - (h.rooms.getD i sp0).fr) = (h.rooms.getD i sp0).to - (h.rooms.getD i sp0).fr := w64 (by omega)
      replace hq := And.intro hq (And.intro hil (hw))
      refine tr_skip ?_
      (try simp only [thenE, inBlkE])
      refine hK9 _ ?_
      refine tr_seq fun K10 hK10 => ?_
      refine tr_block ?_
      refine tr_seq fun K11 hK11 => ?_
      refine tr_region [1, 3, 4, 5, 6, 7, 8, 27, 28, 29] rfl rfl fun K hK => ?_
      iterate 7 refine evR_p ?_
      refine evR_e hK ?_; clear hK K
      refine hK11 _ ?_
      refine tr_seq fun K12 hK12 => ?_
      refine tr_fz [.ptr 3 0] (by simp (maxSteps := 4000000) (disch := first | assumption | omega | (simp only [go_sem, *]; done) | (simp only [go_sem, *]; omega)) only [go_sem, hq, Int.reduceToNat, Nat.reduceBEq, Nat.reduceEqDiff, Nat.reduceAdd, Nat.reduceMul, Nat.reduceLeDiff, Nat.reduceLT, Nat.reduceSub, ↓reduceIte, reduceCtorEq]; (try rfl)) ?_
      refine tr_region [1, 3, 4, 5, 6, 9, 27, 28, 29] rfl rfl fun K hK => ?_
      iterate 11 refine evR_p ?_
      refine evR_c (hc := (k70 h hol 1 (i : Nat) 0 _ _ 74 [.ep [.int .i64 (i : Nat)]] (roomC i) okF_74 rfl (fun o _ => k74 o i))) (k := ?_)
      iterate 6 refine evR_p ?_
      refine evR_e hK ?_; clear hK K
      refine hK12 _ ?_
      refine tr_region [1, 3, 4, 5, 6, 27, 28, 29] rfl rfl fun K hK => ?_
      iterate 2 refine evR_p ?_
      refine evR_bs ?_
      refine evR_stepX fun Kq hKq => Or.inr ?_
      simp (maxSteps := 4000000) (disch := first | assumption | omega | (simp only [go_sem, *]; done) | (simp only [go_sem, *]; omega)) only [stpM, go_sem, hq, Int.reduceToNat, Nat.reduceBEq, Nat.reduceEqDiff, Nat.reduceAdd, Nat.reduceMul, Nat.reduceLeDiff, Nat.reduceLT, Nat.reduceSub, ↓reduceIte, reduceCtorEq]
      refine ⟨[1, 2], ?_⟩
      simp (maxSteps := 4000000) (disch := first | assumption | omega | (simp only [go_sem, *]; done) | (simp only [go_sem, *]; omega)) only [V.mapL, V.map, gJ, footJ, inJ, AObj.map, ndJ, ltJ, V.domL, V.dom, AObj.dom, kC, kR, AObj.isC, hJ, backJ, List.any_cons, List.any_nil, Nat.ble_eq, Nat.blt_eq, Nat.reduceLT, Nat.reduceLeDiff, Bool.or_true, Bool.true_or, Bool.or_false, Bool.false_or, Bool.and_self, go_sem, hq, Int.reduceToNat, Nat.reduceBEq, Nat.reduceEqDiff, Nat.reduceAdd, Nat.reduceMul, Nat.reduceLeDiff, Nat.reduceLT, Nat.reduceSub, ↓reduceIte, reduceCtorEq]
      refine ⟨_, _, _, (k71 (roomRs h i) (roomR h i) (by rw [roomRs_len]; omega)), ?_⟩
      simp (maxSteps := 4000000) (disch := first | assumption | omega | (simp only [go_sem, *]; done) | (simp only [go_sem, *]; omega)) only [V.mapL, V.map, gJ, footJ, inJ, AObj.map, ndJ, ltJ, V.domL, V.dom, AObj.dom, kC, kR, AObj.isC, hJ, backJ, List.any_cons, List.any_nil, Nat.ble_eq, Nat.blt_eq, Nat.reduceLT, Nat.reduceLeDiff, Bool.or_true, Bool.true_or, Bool.or_false, Bool.false_or, Bool.and_self, go_sem, hq, Int.reduceToNat, Nat.reduceBEq, Nat.reduceEqDiff, Nat.reduceAdd, Nat.reduceMul, Nat.reduceLeDiff, Nat.reduceLT, Nat.reduceSub, ↓reduceIte, reduceCtorEq]
      (repeat (refine And.intro (by first | assumption | omega | decide | (simp; done) | (simp; omega) | (have hq := hvv hgt; omega) | (have hq := hvv hgt.1; omega) | (simp_all; done)) ?_))
      refine hKq _ ?_; clear hKq Kq
      refine evR_e hK ?_; clear hK K
      refine hK10 _ ?_
      refine tr_region [1, 3, 4, 5, 6, 27, 28, 29] rfl rfl fun K hK => ?_
      iterate 2 refine evR_p ?_
      refine evR_e hK ?_; clear hK K
      refine hKL1 _ ?_
      exact ⟨m - 1, _, by omega, (Wk.trans (Wk.ren 6 2 (Nat.le_of_ble_eq_true rfl) (Nat.le_of_ble_eq_true rfl) rfl) (Wk.cut 3 rfl)), i + 1, by omega, by rw [w64 (x := (i : Int) + 1) (by omega), roomRs_s]; rfl⟩
    · skip
      have hil : i = h.rooms.length := by omega
      subst hil
      refine tr_exit ?_
      simp only [thenE, inBlkE, Nat.reduceEqDiff, ↓reduceIte]
      refine hK6 _ ?_
      refine tr_seq fun K13 hK13 => ?_
      refine tr_seq fun K14 hK14 => ?_
      refine tr_region [1, 3, 4, 5, 6, 54] rfl rfl fun K hK => ?_
      refine evR_p ?_
      refine evR_e hK ?_; clear hK K
      refine hK14 _ ?_
      refine tr_block ?_
      -- loop 2: live [1, 3, 4, 5, 6, 54]
      refine tr_loopW (fun m σ => ∃ k : Nat, k + m = 12 ∧ σ = ⟨[(1, .ep (encHr h)), (3, .fn 70 [.ep (encHr h)]), (4, .ptr 1 0), (5, .fn 71 [.ptr 1 0]), (6, .fn 72 []), (54, .int .i64 (k : Nat))], [(2, .row 73 6 (encR (roomRs h h.rooms.length ++ onceRs h k))), (1, .cells [.own 2])], 3⟩) (12) ?_ ?_
      · exact ⟨_, Wk.refl _, 0, by omega, by rw [show onceRs h 0 = [] from rfl, List.append_nil]; rfl⟩
      · rintro m2 σ ⟨k, hk, rfl⟩ KL2 hKL2
        refine tr_seq fun K15 hK15 => ?_
        refine tr_region [1, 3, 4, 5, 6, 54, 55] rfl rfl fun K hK => ?_
        refine evR_p ?_
        refine evR_e hK ?_; clear hK K
        refine hK15 _ ?_
        refine tr_seq fun K16 hK16 => ?_
        refine tr_condB (fun ht2 => ?_) (fun ht2 => ?_)
        · skip
          have hkl : k < 12 := by omega
          replace hq := And.intro hq (hkl)
          refine tr_skip ?_
          (try simp only [thenE, inBlkE])
          refine hK16 _ ?_
          refine tr_seq fun K17 hK17 => ?_
          refine tr_block ?_
          refine tr_seq fun K18 hK18 => ?_
          refine tr_region [1, 3, 4, 5, 6, 11, 54] rfl rfl fun K hK => ?_
          iterate 3 refine evR_p ?_
          refine evR_e hK ?_; clear hK K
          refine hK18 _ ?_
          refine tr_seq fun K19 hK19 => ?_
          refine tr_fz [.ptr 3 0] (by simp (maxSteps := 4000000) (disch := first | assumption | omega | (simp only [go_sem, *]; done) | (simp only [go_sem, *]; omega)) only [go_sem, hq, Int.reduceToNat, Nat.reduceBEq, Nat.reduceEqDiff, Nat.reduceAdd, Nat.reduceMul, Nat.reduceLeDiff, Nat.reduceLT, Nat.reduceSub, ↓reduceIte, reduceCtorEq]; (try rfl)) ?_
          refine tr_draw [59] [1, 3, 4, 5, 6, 12, 13, 54] mixed rfl (by kernel_rfl) rfl fun K hK => ?_
          iterate 5 refine evD_p ?_
          refine evD_c (hc := (k72 75 [.ep [.int .i64 (k : Nat)]] 1 rfl)) (k := ?_)
          refine evD_c (hc := (k70 h hol 2 (k : Nat) 0 0 1 73 [.ep [.fn 75 [.ep [.int .i64 (k : Nat)]]], .ep [.int .i64 1]] (oneC 1 (isP (k : Nat))) okF_73 rfl (fun o _ => k73 o 75 [.ep [.int .i64 (k : Nat)]] 1 (isP (k : Nat)) okF_75 rfl (k75 o (k : Nat))))) (k := ?_)
          iterate 6 refine evD_p ?_
          refine evD_e hK ?_; clear hK K
          refine hK19 _ ?_
          refine tr_seq fun K20 hK20 => ?_
          refine tr_region [1, 3, 4, 5, 6, 12, 54, 68] rfl rfl fun K hK => ?_
          iterate 2 refine evR_p ?_
          refine evR_e hK ?_; clear hK K
          refine hK20 _ ?_
          refine tr_condB (fun ht3 => ?_) (fun ht3 => ?_)
          · skip
            refine tr_region [1, 3, 4, 5, 6, 54] rfl rfl fun K hK => ?_
            iterate 2 refine evR_p ?_
            refine evR_bs ?_
            refine evR_stepX fun Kq hKq => Or.inr ?_
            simp (maxSteps := 4000000) (disch := first | assumption | omega | (simp only [go_sem, *]; done) | (simp only [go_sem, *]; omega)) only [stpM, go_sem, hq, Int.reduceToNat, Nat.reduceBEq, Nat.reduceEqDiff, Nat.reduceAdd, Nat.reduceMul, Nat.reduceLeDiff, Nat.reduceLT, Nat.reduceSub, ↓reduceIte, reduceCtorEq]
            refine ⟨[1, 2], ?_⟩
            simp (maxSteps := 4000000) (disch := first | assumption | omega | (simp only [go_sem, *]; done) | (simp only [go_sem, *]; omega)) only [V.mapL, V.map, gJ, footJ, inJ, AObj.map, ndJ, ltJ, V.domL, V.dom, AObj.dom, kC, kR, AObj.isC, hJ, backJ, List.any_cons, List.any_nil, Nat.ble_eq, Nat.blt_eq, Nat.reduceLT, Nat.reduceLeDiff, Bool.or_true, Bool.true_or, Bool.or_false, Bool.false_or, Bool.and_self, go_sem, hq, Int.reduceToNat, Nat.reduceBEq, Nat.reduceEqDiff, Nat.reduceAdd, Nat.reduceMul, Nat.reduceLeDiff, Nat.reduceLT, Nat.reduceSub, ↓reduceIte, reduceCtorEq]
            refine ⟨_, _, _, (k71 (roomRs h h.rooms.length ++ onceRs h k) (onceR h k) (by have := hl2 k; rw [List.length_append, roomRs_len]; omega)), ?_⟩
            simp (maxSteps := 4000000) (disch := first | assumption | omega | (simp only [go_sem, *]; done) | (simp only [go_sem, *]; omega)) only [V.mapL, V.map, gJ, footJ, inJ, AObj.map, ndJ, ltJ, V.domL, V.dom, AObj.dom, kC, kR, AObj.isC, hJ, backJ, List.any_cons, List.any_nil, Nat.ble_eq, Nat.blt_eq, Nat.reduceLT, Nat.reduceLeDiff, Bool.or_true, Bool.true_or, Bool.or_false, Bool.false_or, Bool.and_self, go_sem, hq, Int.reduceToNat, Nat.reduceBEq, Nat.reduceEqDiff, Nat.reduceAdd, Nat.reduceMul, Nat.reduceLeDiff, Nat.reduceLT, Nat.reduceSub, ↓reduceIte, reduceCtorEq]
            (repeat (refine And.intro (by first | assumption | omega | decide | (simp; done) | (simp; omega) | (have hq := hvv hgt; omega) | (have hq := hvv hgt.1; omega) | (simp_all; done)) ?_))
            refine hKq _ ?_; clear hKq Kq
            refine evR_e hK ?_; clear hK K
            refine hK17 _ ?_
            refine tr_region [1, 3, 4, 5, 6, 54] rfl rfl fun K hK => ?_
            iterate 2 refine evR_p ?_
            refine evR_e hK ?_; clear hK K
            refine hKL2 _ ?_
            first | exact ⟨m2 - 1, _, by omega, (Wk.trans (Wk.ren 5 2 (Nat.le_of_ble_eq_true rfl) (Nat.le_of_ble_eq_true rfl) rfl) (Wk.cut 3 rfl)), k + 1, by omega, by rw [w64 (x := (k : Int) + 1) (by omega), onceRs_t ht3, ← List.append_assoc]; rfl⟩ | exact ⟨m2 - 1, _, by omega, Wk.cut 3 rfl, k + 1, by omega, by rw [w64 (x := (k : Int) + 1) (by omega), onceRs_f ht3]; rfl⟩
          · skip
            refine tr_skip ?_
            (try simp only [thenE, inBlkE])
            refine hK17 _ ?_
            refine tr_region [1, 3, 4, 5, 6, 54] rfl rfl fun K hK => ?_
            iterate 2 refine evR_p ?_
            refine evR_e hK ?_; clear hK K
            refine hKL2 _ ?_
            first | exact ⟨m2 - 1, _, by omega, (Wk.trans (Wk.ren 5 2 (Nat.le_of_ble_eq_true rfl) (Nat.le_of_ble_eq_true rfl) rfl) (Wk.cut 3 rfl)), k + 1, by omega, by rw [w64 (x := (k : Int) + 1) (by omega), onceRs_t ht3, ← List.append_assoc]; rfl⟩ | exact ⟨m2 - 1, _, by omega, Wk.cut 3 rfl, k + 1, by omega, by rw [w64 (x := (k : Int) + 1) (by omega), onceRs_f ht3]; rfl⟩
        · skip
          have hkl : k = 12 := by omega
          subst hkl
          refine tr_exit ?_
          simp only [thenE, inBlkE, Nat.reduceEqDiff, ↓reduceIte]
          refine hK13 _ ?_
          refine tr_seq fun K21 hK21 => ?_
          refine tr_seq fun K22 hK22 => ?_
          refine tr_region [1, 3, 4, 5, 6, 75, 76, 77] rfl rfl fun K hK => ?_
          iterate 4 refine evR_p ?_
          refine evR_e hK ?_; clear hK K
          refine hK22 _ ?_
          refine tr_block ?_
          -- loop 3: live [1, 3, 4, 5, 6, 75, 76, 77]
          refine tr_loopW (fun m σ => ∃ i : Nat, i + m = h.apart.length ∧ σ = ⟨[(1, .ep (encHr h)), (3, .fn 70 [.ep (encHr h)]), (4, .ptr 1 0), (5, .fn 71 [.ptr 1 0]), (6, .fn 72 []), (75, .sl 2 (encP2s h.apart)), (76, .int .i64 h.apart.length), (77, .int .i64 (i : Nat))], [(2, .row 73 6 (encR ((roomRs h h.rooms.length ++ onceRs h 12) ++ apartsRs h i))), (1, .cells [.own 2])], 3⟩) (h.apart.length) ?_ ?_
          · exact ⟨_, Wk.refl _, 0, by omega, by rw [show apartsRs h 0 = [] from rfl, List.append_nil]; rfl⟩
          · rintro m3 σ ⟨i, hi, rfl⟩ KL3 hKL3
            refine tr_seq fun K23 hK23 => ?_
            refine tr_region [1, 3, 4, 5, 6, 75, 76, 77, 78] rfl rfl fun K hK => ?_
            refine evR_p ?_
            refine evR_e hK ?_; clear hK K
            refine hK23 _ ?_
            refine tr_seq fun K24 hK24 => ?_
            refine tr_condB (fun ht4 => ?_) (fun ht4 => ?_)
            · skip
              have hil : i < h.apart.length := by omega
              obtain ⟨a, hA⟩ : ∃ a, h.apart.getD i p20 = a := ⟨_, rfl⟩
              have hap := apartsRs_len h i
              have hmm : i * h.rooms.length ≤ 12 * 6 := Nat.mul_le_mul (by omega) hrl
              replace hq := And.intro hq (And.intro hil (hA))
              refine tr_skip ?_
              (try simp only [thenE, inBlkE])
              refine hK24 _ ?_
              refine tr_seq fun K25 hK25 => ?_
              refine tr_block ?_
              refine tr_seq fun K26 hK26 => ?_
              refine tr_region [1, 3, 4, 5, 6, 15, 75, 76, 77] rfl rfl fun K hK => ?_
              iterate 4 refine evR_p ?_
              refine evR_e hK ?_; clear hK K
              refine hK26 _ ?_
              refine tr_seq fun K27 hK27 => ?_
              refine tr_fz [.ptr 3 0] (by simp (maxSteps := 4000000) (disch := first | assumption | omega | (simp only [go_sem, *]; done) | (simp only [go_sem, *]; omega)) only [go_sem, hq, Int.reduceToNat, Nat.reduceBEq, Nat.reduceEqDiff, Nat.reduceAdd, Nat.reduceMul, Nat.reduceLeDiff, Nat.reduceLT, Nat.reduceSub, ↓reduceIte, reduceCtorEq]; (try rfl)) ?_
              refine tr_region [1, 3, 4, 5, 6, 15, 75, 76, 77, 82, 83, 84] rfl rfl fun K hK => ?_
              iterate 4 refine evR_p ?_
              refine evR_e hK ?_; clear hK K
              refine hK27 _ ?_
              refine tr_block ?_
              -- loop 4: live [1, 3, 4, 5, 6, 15, 75, 76, 77, 82, 83, 84]
              refine tr_loopW (fun m σ => ∃ k : Nat, k + m = h.rooms.length ∧ σ = ⟨[(1, .ep (encHr h)), (3, .fn 70 [.ep (encHr h)]), (4, .ptr 1 0), (5, .fn 71 [.ptr 1 0]), (6, .fn 72 []), (15, .ep (encP2 a)), (75, .sl 2 (encP2s h.apart)), (76, .int .i64 h.apart.length), (77, .int .i64 (i : Nat)), (82, .sl 2 (encSps h.rooms)), (83, .int .i64 h.rooms.length), (84, .int .i64 (k : Nat))], [(2, .row 73 6 (encR ((roomRs h h.rooms.length ++ onceRs h 12) ++ (apartsRs h i ++ apartRs h a k)))), (1, .cells [.own 2])], 4⟩) (h.rooms.length) ?_ ?_
              · exact ⟨_, Wk.refl _, 0, by omega, by rw [show apartRs h a 0 = [] from rfl, List.append_nil]; rfl⟩
              · rintro m4 σ ⟨k, hk, rfl⟩ KL4 hKL4
                refine tr_seq fun K28 hK28 => ?_
                refine tr_region [1, 3, 4, 5, 6, 15, 75, 76, 77, 82, 83, 84, 85] rfl rfl fun K hK => ?_
                refine evR_p ?_
                refine evR_e hK ?_; clear hK K
                refine hK28 _ ?_
                refine tr_seq fun K29 hK29 => ?_
                refine tr_condB (fun ht5 => ?_) (fun ht5 => ?_)
                · skip
                  have hkl : k < h.rooms.length := by omega
                  have hap2 := apartRs_len h a k
                  have hl12 := hl2 12
                  have hla : ((roomRs h h.rooms.length ++ onceRs h 12) ++ (apartsRs h i ++ apartRs h a k)).length ≤ 1000 := by simp only [List.length_append, roomRs_len]; omega
                  replace hq := And.intro hq (hkl)
                  refine tr_skip ?_
                  (try simp only [thenE, inBlkE])
                  refine hK29 _ ?_
                  refine tr_seq fun K30 hK30 => ?_
                  refine tr_block ?_
                  refine tr_seq fun K31 hK31 => ?_
                  refine tr_region [1, 3, 4, 5, 6, 15, 16, 17, 75, 76, 77, 82, 83, 84] rfl rfl fun K hK => ?_
                  iterate 7 refine evR_p ?_
                  refine evR_e hK ?_; clear hK K
                  refine hK31 _ ?_
                  refine tr_seq fun K32 hK32 => ?_
                  refine tr_fz [.ptr 4 0, .ptr 5 0] (by simp (maxSteps := 4000000) (disch := first | assumption | omega | (simp only [go_sem, *]; done) | (simp only [go_sem, *]; omega)) only [go_sem, hq, Int.reduceToNat, Nat.reduceBEq, Nat.reduceEqDiff, Nat.reduceAdd, Nat.reduceMul, Nat.reduceLeDiff, Nat.reduceLT, Nat.reduceSub, ↓reduceIte, reduceCtorEq]; (try rfl)) ?_
                  refine tr_draw [91, 92, 93, 94, 96] [1, 3, 4, 5, 6, 15, 18, 19, 75, 76, 77, 82, 83, 84] mixed rfl (by kernel_rfl) rfl fun K hK => ?_
                  iterate 10 refine evD_p ?_
                  refine evD_c (hc := (k72 76 [.ep [.int .i64 (k : Nat)], .ep (encP2 a)] 1 rfl)) (k := ?_)
                  refine evD_c (hc := (k70 h hol 3 a.a a.b _ 1 73 [.ep [.fn 76 [.ep [.int .i64 (k : Nat)], .ep (encP2 a)]], .ep [.int .i64 1]] (oneC 1 (isA a k)) okF_73 rfl (fun o _ => k73 o 76 [.ep [.int .i64 (k : Nat)], .ep (encP2 a)] 1 (isA a k) okF_76 rfl (k76 o k a)))) (k := ?_)
                  iterate 6 refine evD_p ?_
                  refine evD_e hK ?_; clear hK K
                  refine hK32 _ ?_
                  refine tr_seq fun K33 hK33 => ?_
                  refine tr_region [1, 3, 4, 5, 6, 15, 18, 75, 76, 77, 82, 83, 84, 105] rfl rfl fun K hK => ?_
                  iterate 2 refine evR_p ?_
                  refine evR_e hK ?_; clear hK K
                  refine hK33 _ ?_
                  refine tr_condB (fun ht6 => ?_) (fun ht6 => ?_)
                  · skip
                    refine tr_region [1, 3, 4, 5, 6, 15, 75, 76, 77, 82, 83, 84] rfl rfl fun K hK => ?_
                    iterate 2 refine evR_p ?_
                    refine evR_bs ?_
                    refine evR_stepX fun Kq hKq => Or.inr ?_
                    simp (maxSteps := 4000000) (disch := first | assumption | omega | (simp only [go_sem, *]; done) | (simp only [go_sem, *]; omega)) only [stpM, go_sem, hq, Int.reduceToNat, Nat.reduceBEq, Nat.reduceEqDiff, Nat.reduceAdd, Nat.reduceMul, Nat.reduceLeDiff, Nat.reduceLT, Nat.reduceSub, ↓reduceIte, reduceCtorEq]
                    refine ⟨[1, 2], ?_⟩
                    simp (maxSteps := 4000000) (disch := first | assumption | omega | (simp only [go_sem, *]; done) | (simp only [go_sem, *]; omega)) only [V.mapL, V.map, gJ, footJ, inJ, AObj.map, ndJ, ltJ, V.domL, V.dom, AObj.dom, kC, kR, AObj.isC, hJ, backJ, List.any_cons, List.any_nil, Nat.ble_eq, Nat.blt_eq, Nat.reduceLT, Nat.reduceLeDiff, Bool.or_true, Bool.true_or, Bool.or_false, Bool.false_or, Bool.and_self, go_sem, hq, Int.reduceToNat, Nat.reduceBEq, Nat.reduceEqDiff, Nat.reduceAdd, Nat.reduceMul, Nat.reduceLeDiff, Nat.reduceLT, Nat.reduceSub, ↓reduceIte, reduceCtorEq]
                    refine ⟨_, _, _, (k71 ((roomRs h h.rooms.length ++ onceRs h 12) ++ (apartsRs h i ++ apartRs h a k)) (apartR h a k) hla), ?_⟩
                    simp (maxSteps := 4000000) (disch := first | assumption | omega | (simp only [go_sem, *]; done) | (simp only [go_sem, *]; omega)) only [V.mapL, V.map, gJ, footJ, inJ, AObj.map, ndJ, ltJ, V.domL, V.dom, AObj.dom, kC, kR, AObj.isC, hJ, backJ, List.any_cons, List.any_nil, Nat.ble_eq, Nat.blt_eq, Nat.reduceLT, Nat.reduceLeDiff, Bool.or_true, Bool.true_or, Bool.or_false, Bool.false_or, Bool.and_self, go_sem, hq, Int.reduceToNat, Nat.reduceBEq, Nat.reduceEqDiff, Nat.reduceAdd, Nat.reduceMul, Nat.reduceLeDiff, Nat.reduceLT, Nat.reduceSub, ↓reduceIte, reduceCtorEq]
                    (repeat (refine And.intro (by first | assumption | omega | decide | (simp; done) | (simp; omega) | (have hq := hvv hgt; omega) | (have hq := hvv hgt.1; omega) | (simp_all; done)) ?_))
                    refine hKq _ ?_; clear hKq Kq
                    refine evR_e hK ?_; clear hK K
                    refine hK30 _ ?_
                    refine tr_region [1, 3, 4, 5, 6, 15, 75, 76, 77, 82, 83, 84] rfl rfl fun K hK => ?_
                    iterate 2 refine evR_p ?_
                    refine evR_e hK ?_; clear hK K
                    refine hKL4 _ ?_
                    first | exact ⟨m4 - 1, _, by omega, (Wk.trans (Wk.ren 7 2 (Nat.le_of_ble_eq_true rfl) (Nat.le_of_ble_eq_true rfl) rfl) (Wk.cut 4 rfl)), k + 1, by omega, by rw [w64 (x := (k : Int) + 1) (by omega), apartRs_t ht6, app3]; rfl⟩ | exact ⟨m4 - 1, _, by omega, Wk.cut 4 rfl, k + 1, by omega, by rw [w64 (x := (k : Int) + 1) (by omega), apartRs_f ht6]; rfl⟩
                  · skip
                    refine tr_skip ?_
                    (try simp only [thenE, inBlkE])
                    refine hK30 _ ?_
                    refine tr_region [1, 3, 4, 5, 6, 15, 75, 76, 77, 82, 83, 84] rfl rfl fun K hK => ?_
                    iterate 2 refine evR_p ?_
                    refine evR_e hK ?_; clear hK K
                    refine hKL4 _ ?_
                    first | exact ⟨m4 - 1, _, by omega, (Wk.trans (Wk.ren 7 2 (Nat.le_of_ble_eq_true rfl) (Nat.le_of_ble_eq_true rfl) rfl) (Wk.cut 4 rfl)), k + 1, by omega, by rw [w64 (x := (k : Int) + 1) (by omega), apartRs_t ht6, app3]; rfl⟩ | exact ⟨m4 - 1, _, by omega, Wk.cut 4 rfl, k + 1, by omega, by rw [w64 (x := (k : Int) + 1) (by omega), apartRs_f ht6]; rfl⟩
                · skip
                  have hkl : k = h.rooms.length := by omega
                  subst hkl
                  refine tr_exit ?_
                  simp only [thenE, inBlkE, Nat.reduceEqDiff, ↓reduceIte]
                  refine hK25 _ ?_
                  refine tr_region [1, 3, 4, 5, 6, 75, 76, 77] rfl rfl fun K hK => ?_
                  iterate 2 refine evR_p ?_
                  refine evR_e hK ?_; clear hK K
                  refine hKL3 _ ?_
                  exact ⟨m3 - 1, _, by omega, Wk.cut 3 rfl, i + 1, by omega, by rw [w64 (x := (i : Int) + 1) (by omega), show apartsRs h (i + 1) = apartsRs h i ++ apartRs h (h.apart.getD i p20) h.rooms.length from rfl, hA]; rfl⟩
            · skip
              have hil : i = h.apart.length := by omega
              subst hil
              refine tr_exit ?_
              simp only [thenE, inBlkE, Nat.reduceEqDiff, ↓reduceIte]
              refine hK21 _ ?_
              refine tr_seq fun K34 hK34 => ?_
              refine tr_seq fun K35 hK35 => ?_
              refine tr_region [3, 4, 5, 6, 113, 114, 115] rfl rfl fun K hK => ?_
              iterate 4 refine evR_p ?_
              refine evR_e hK ?_; clear hK K
              refine hK35 _ ?_
              refine tr_block ?_
              -- loop 5: live [3, 4, 5, 6, 113, 114, 115]
              refine tr_loopW (fun m σ => ∃ i : Nat, i + m = h.must.length ∧ σ = ⟨[(3, .fn 70 [.ep (encHr h)]), (4, .ptr 1 0), (5, .fn 71 [.ptr 1 0]), (6, .fn 72 []), (113, .sl 1 (encI h.must)), (114, .int .i64 h.must.length), (115, .int .i64 (i : Nat))], [(2, .row 73 6 (encR ((roomRs h h.rooms.length ++ onceRs h 12) ++ (apartsRs h h.apart.length ++ mustRs h i)))), (1, .cells [.own 2])], 3⟩) (h.must.length) ?_ ?_
              · exact ⟨_, Wk.refl _, 0, by omega, by rw [show mustRs h 0 = [] from rfl, List.append_nil]; rfl⟩
              · rintro m5 σ ⟨i, hi, rfl⟩ KL5 hKL5
                refine tr_seq fun K36 hK36 => ?_
                refine tr_region [3, 4, 5, 6, 113, 114, 115, 116] rfl rfl fun K hK => ?_
                refine evR_p ?_
                refine evR_e hK ?_; clear hK K
                refine hK36 _ ?_
                refine tr_seq fun K37 hK37 => ?_
                refine tr_condB (fun ht7 => ?_) (fun ht7 => ?_)
                · skip
                  have hil : i < h.must.length := by omega
                  have hap := apartsRs_len h h.apart.length
                  have hmm : h.apart.length * h.rooms.length ≤ 12 * 6 := Nat.mul_le_mul (by omega) hrl
                  have hl12 := hl2 12
                  have hla : ((roomRs h h.rooms.length ++ onceRs h 12) ++ (apartsRs h h.apart.length ++ mustRs h i)).length ≤ 1000 := by have := mustRs_len h i; simp only [List.length_append, roomRs_len]; omega
                  replace hq := And.intro hq (hil)
                  refine tr_skip ?_
                  (try simp only [thenE, inBlkE])
                  refine hK37 _ ?_
                  refine tr_seq fun K38 hK38 => ?_
                  refine tr_block ?_
                  refine tr_seq fun K39 hK39 => ?_
                  refine tr_region [3, 4, 5, 6, 21, 113, 114, 115] rfl rfl fun K hK => ?_
                  iterate 4 refine evR_p ?_
                  refine evR_e hK ?_; clear hK K
                  refine hK39 _ ?_
                  refine tr_seq fun K40 hK40 => ?_
                  refine tr_fz [.ptr 3 0] (by simp (maxSteps := 4000000) (disch := first | assumption | omega | (simp only [go_sem, *]; done) | (simp only [go_sem, *]; omega)) only [go_sem, hq, Int.reduceToNat, Nat.reduceBEq, Nat.reduceEqDiff, Nat.reduceAdd, Nat.reduceMul, Nat.reduceLeDiff, Nat.reduceLT, Nat.reduceSub, ↓reduceIte, reduceCtorEq]; (try rfl)) ?_
                  refine tr_draw [121] [3, 4, 5, 6, 22, 113, 114, 115] mixed rfl (by kernel_rfl) rfl fun K hK => ?_
                  iterate 5 refine evD_p ?_
                  refine evD_c (hc := (k72 77 [.ep [.int .i64 (h.must.getD i 0)]] (-1) rfl)) (k := ?_)
                  refine evD_c (hc := (k70 h hol 4 (h.must.getD i 0) 0 0 (-1) 73 [.ep [.fn 77 [.ep [.int .i64 (h.must.getD i 0)]]], .ep [.int .i64 (-1)]] (oneC (-1) (isP (h.must.getD i 0))) okF_73 rfl (fun o _ => k73 o 77 [.ep [.int .i64 (h.must.getD i 0)]] (-1) (isP (h.must.getD i 0)) okF_77 rfl (k77 o (h.must.getD i 0))))) (k := ?_)
                  iterate 6 refine evD_p ?_
                  refine evD_e hK ?_; clear hK K
                  refine hK40 _ ?_
                  refine tr_region [3, 4, 5, 6, 113, 114, 115] rfl rfl fun K hK => ?_
                  iterate 2 refine evR_p ?_
                  refine evR_bs ?_
                  refine evR_stepX fun Kq hKq => Or.inr ?_
                  simp (maxSteps := 4000000) (disch := first | assumption | omega | (simp only [go_sem, *]; done) | (simp only [go_sem, *]; omega)) only [stpM, go_sem, hq, Int.reduceToNat, Nat.reduceBEq, Nat.reduceEqDiff, Nat.reduceAdd, Nat.reduceMul, Nat.reduceLeDiff, Nat.reduceLT, Nat.reduceSub, ↓reduceIte, reduceCtorEq]
                  refine ⟨[1, 2], ?_⟩
                  simp (maxSteps := 4000000) (disch := first | assumption | omega | (simp only [go_sem, *]; done) | (simp only [go_sem, *]; omega)) only [V.mapL, V.map, gJ, footJ, inJ, AObj.map, ndJ, ltJ, V.domL, V.dom, AObj.dom, kC, kR, AObj.isC, hJ, backJ, List.any_cons, List.any_nil, Nat.ble_eq, Nat.blt_eq, Nat.reduceLT, Nat.reduceLeDiff, Bool.or_true, Bool.true_or, Bool.or_false, Bool.false_or, Bool.and_self, go_sem, hq, Int.reduceToNat, Nat.reduceBEq, Nat.reduceEqDiff, Nat.reduceAdd, Nat.reduceMul, Nat.reduceLeDiff, Nat.reduceLT, Nat.reduceSub, ↓reduceIte, reduceCtorEq]
                  refine ⟨_, _, _, (k71 ((roomRs h h.rooms.length ++ onceRs h 12) ++ (apartsRs h h.apart.length ++ mustRs h i)) (mustR h (h.must.getD i 0)) hla), ?_⟩
                  simp (maxSteps := 4000000) (disch := first | assumption | omega | (simp only [go_sem, *]; done) | (simp only [go_sem, *]; omega)) only [V.mapL, V.map, gJ, footJ, inJ, AObj.map, ndJ, ltJ, V.domL, V.dom, AObj.dom, kC, kR, AObj.isC, hJ, backJ, List.any_cons, List.any_nil, Nat.ble_eq, Nat.blt_eq, Nat.reduceLT, Nat.reduceLeDiff, Bool.or_true, Bool.true_or, Bool.or_false, Bool.false_or, Bool.and_self, go_sem, hq, Int.reduceToNat, Nat.reduceBEq, Nat.reduceEqDiff, Nat.reduceAdd, Nat.reduceMul, Nat.reduceLeDiff, Nat.reduceLT, Nat.reduceSub, ↓reduceIte, reduceCtorEq]
                  (repeat (refine And.intro (by first | assumption | omega | decide | (simp; done) | (simp; omega) | (have hq := hvv hgt; omega) | (have hq := hvv hgt.1; omega) | (simp_all; done)) ?_))
                  refine hKq _ ?_; clear hKq Kq
                  refine evR_e hK ?_; clear hK K
                  refine hK38 _ ?_
                  refine tr_region [3, 4, 5, 6, 113, 114, 115] rfl rfl fun K hK => ?_
                  iterate 2 refine evR_p ?_
                  refine evR_e hK ?_; clear hK K
                  refine hKL5 _ ?_
                  exact ⟨m5 - 1, _, by omega, (Wk.trans (Wk.ren 5 2 (Nat.le_of_ble_eq_true rfl) (Nat.le_of_ble_eq_true rfl) rfl) (Wk.cut 3 rfl)), i + 1, by omega, by rw [w64 (x := (i : Int) + 1) (by omega), mustRs_s hil, app3]; rfl⟩
                · skip
                  have hil : i = h.must.length := by omega
                  subst hil
                  refine tr_exit ?_
                  simp only [thenE, inBlkE, Nat.reduceEqDiff, ↓reduceIte]
                  refine hK34 _ ?_
                  refine tr_seq fun K41 hK41 => ?_
                  refine tr_region [2] rfl rfl fun K hK => ?_
                  iterate 2 refine evR_p ?_
                  refine evR_e hK ?_; clear hK K
                  refine hK41 _ ?_
                  refine tr_ret ?_
                  (try simp only [thenE, inBlkE])
                  simp (maxSteps := 4000000) (disch := first | assumption | omega | (simp only [go_sem, *]; done) | (simp only [go_sem, *]; omega)) only [postA, postO, resV1, fzAll, go_sem, hq, Int.reduceToNat, Nat.reduceBEq, Nat.reduceEqDiff, Nat.reduceAdd, Nat.reduceMul, Nat.reduceLeDiff, Nat.reduceLT, Nat.reduceSub, ↓reduceIte, reduceCtorEq]
                  all_goals ((rw [rowsH, List.append_assoc]; done))

end Go.Proofs.YtaaongcfeldcoaaDoor


namespace Go.Proofs.YtaaongcfeldcoaaDoor
open Go.RowKit
set_option linter.unusedVariables false
set_option linter.unusedSimpArgs false
set_option maxRecDepth 100000
attribute [local go_sem] Nat.zero_add Nat.add_zero Nat.mul_one eq_self ne_eq not_true_eq_false not_false_eq_true decide_true decide_false decide_not Bool.false_eq_true List.filter_cons List.filter_nil true_and and_true beq_false beq_true Bool.not_true Bool.not_false Bool.and_true Bool.true_and Option.getD_some Option.getD_none imp_self implies_true Int.toNat_natCast List.cons_append List.nil_append List.map_cons List.map_nil List.length_cons List.length_nil List.getD_cons_zero List.getD_cons_succ List.drop_zero List.drop_succ_cons List.take_succ_cons List.take_zero
attribute [local go_sem] lowN lowQ lowM isAl appOwn unw appF isE isO stpO notIn St.bare evO evDO isEff stp St.get St.slot St.put List.lookup un unL ofVal gof nth pickV pkB_false pkB_true binV unV loadV idxV fldV partV buildV fillV lenV sliV appV appR rowsV winV V.parts V.okp V.sc Mem.look_cons Mem.look_nil V.cl V.clL AObj.clo fzAll exps St.fz Mem.fz V.fz V.fzL AObj.fz Option.isSome_some Option.isSome_none Bool.or_true Bool.true_or Bool.or_false Bool.false_or false_and and_false false_or or_false arT_112 arT_22 arT_23 arT_27 arT_28 arT_29 arT_33 arT_52 arT_57 arT_65 arT_76 arT_77 arT_84 arT_88 arT_9 arT_95 boolT_133 boolT_29 boolT_3 boolT_36 boolT_4 boolT_70 boolT_92 flatT_133 flatT_29 flatT_3 flatT_36 flatT_4 flatT_70 flatT_92 intT_121 intT_142 intT_144 intT_145 intT_3 intT_5 lay_110 lay_145 lay_22 lay_23 lay_25 lay_27 lay_28 lay_29 lay_3 lay_31 lay_33 lay_35 lay_4 lay_42 lay_51 lay_56 lay_57 lay_59 lay_70 lay_73 lay_77 lay_79 lay_81 lay_83 lay_84 lay_85 lay_88 lay_92 lay_94 lay_95 okF_10 okF_100 okF_101 okF_102 okF_103 okF_104 okF_105 okF_11 okF_12 okF_122 okF_123 okF_124 okF_125 okF_126 okF_127 okF_13 okF_14 okF_15 okF_16 okF_17 okF_18 okF_19 okF_20 okF_21 okF_22 okF_23 okF_24 okF_25 okF_26 okF_27 okF_28 okF_29 okF_3 okF_30 okF_31 okF_32 okF_33 okF_34 okF_35 okF_36 okF_37 okF_38 okF_39 okF_4 okF_40 okF_41 okF_42 okF_43 okF_44 okF_45 okF_46 okF_47 okF_48 okF_49 okF_5 okF_50 okF_51 okF_52 okF_53 okF_54 okF_55 okF_56 okF_57 okF_58 okF_59 okF_6 okF_60 okF_61 okF_62 okF_63 okF_64 okF_65 okF_66 okF_67 okF_68 okF_69 okF_7 okF_70 okF_71 okF_72 okF_73 okF_74 okF_75 okF_76 okF_77 okF_78 okF_79 okF_8 okF_80 okF_81 okF_82 okF_83 okF_84 okF_85 okF_86 okF_87 okF_88 okF_89 okF_9 okF_90 okF_91 okF_92 okF_93 okF_94 okF_95 okF_96 okF_97 okF_98 okF_99 plT_31 plT_35 plT_51 plT_56 plT_59 plT_70 plT_73 plT_90 plT_92 plT_95 slT_112 slT_22 slT_23 slT_27 slT_28 slT_29 slT_33 slT_52 slT_57 slT_65 slT_76 slT_77 slT_88 slT_95 stT_25_0 stT_25_1 stT_25_2 stT_25_3 stT_25_4 stT_31_0 stT_31_1 stT_31_2 stT_31_3 stT_35_0 stT_35_1 stT_35_2 stT_35_3 stT_51_0 stT_51_1 stT_56_0 stT_56_1 stT_56_2 stT_56_3 stT_59_0 stT_59_1 stT_59_2 stT_73_0 stT_73_3 stT_73_4 stT_73_5 stT_79_0 stT_79_1 stT_79_2 stT_83_0 stT_90_0 stT_90_1 stT_90_2 stT_90_3 strT_76 strT_77 strT_84 strT_9 zeroT_112 zeroT_145 zeroT_3 zeroT_31 zeroT_33 zeroT_35 zeroT_42 zeroT_51 zeroT_56 zeroT_57 zeroT_59 zeroT_70 zeroT_73 zeroT_79 zeroT_83 zeroT_90 zeroT_92 zeroT_95
attribute [local go_sem] List.getElem?_cons_zero List.getElem?_cons_succ List.zip_cons_cons List.zip_nil_left List.zip_nil_right Bool.false_and Bool.and_false List.length_append List.length_set List.length_replicate List.all_cons List.all_nil encI_length encI_getD encR_length encR_getD encRw encPg spl shp AObj.shp rowM isSt isRpS isRd csh AObj.csh forall_const imp_self
attribute [local go_sem] encHr encOf encSp encP2 encSps_length encOfs_length encP2s_length encSps_getD encOfs_getD encP2s_getD
attribute [local simp] encI_length encR_length cellsI_length encSps_length encOfs_length encP2s_length
set_option maxHeartbeats 4000000 in
theorem k20 (h : Hr) (hv : validH h = true) : CallsA Tryd.prog 20 [.agg (encHr h)] (.tup [.agg (encPg (progH h)), .int .i64 0]) := by
  have hV := validH_all hv
  have hr : h.rooms.length ≤ maxLen := by have := hV.rl; unfold maxLen; omega
  have ho : h.offers.length ≤ maxLen := by have := hV.ol; unfold maxLen; omega
  have ha : h.apart.length ≤ maxLen := by have := hV.al; unfold maxLen; omega
  have hm : h.must.length ≤ maxLen := by have := hV.ml; unfold maxLen; omega
  have hol := hV.ol
  have hrl := hV.rl
  have hq := hv
  refine callsA_of_tr Tryd.func20 rfl (Nat.le_of_ble_eq_true rfl) ?_
  simp only [Tryd.results20, envOf, Nat.reduceAdd]
  refine tr_seq fun K1 hK1 => ?_
  refine tr_region [1, 2] rfl rfl fun K hK => ?_
  iterate 3 refine evR_p ?_
  refine evR_e hK ?_; clear hK K
  refine hK1 _ ?_
  refine tr_seq fun K2 hK2 => ?_
  refine tr_seq fun K3 hK3 => ?_
  refine tr_region [1, 2, 9] rfl rfl fun K hK => ?_
  refine evR_p ?_
  refine evR_c (hc := (k19 h hr ho ha hm)) (k := ?_)
  refine evR_p ?_
  refine evR_e hK ?_; clear hK K
  refine hK3 _ ?_
  refine tr_condB (fun ht1 => ?_) (fun ht1 => ?_)
  · skip
    (first | (exfalso; simp_all; done) | skip)
    all_goals
      refine tr_seq fun K4 hK4 => ?_
      refine tr_region [2, 3] rfl rfl fun K hK => ?_
      iterate 3 refine evR_p ?_
      refine evR_e hK ?_; clear hK K
      refine hK4 _ ?_
      refine tr_ret ?_
      (try simp only [thenE, inBlkE])
      simp (maxSteps := 4000000) (disch := first | assumption | omega | (simp only [go_sem, *]; done) | (simp only [go_sem, *]; omega)) only [postA, postO, resV1, fzAll, go_sem, hq, Int.reduceToNat, Nat.reduceBEq, Nat.reduceEqDiff, Nat.reduceAdd, Nat.reduceMul, Nat.reduceLeDiff, Nat.reduceLT, Nat.reduceSub, ↓reduceIte, reduceCtorEq]
      all_goals ((rw [valsT_end]; rfl))
  · skip
    (first | (exfalso; simp_all; done) | skip)
    all_goals
      refine tr_skip ?_
      (try simp only [thenE, inBlkE])
      refine hK2 _ ?_
      refine tr_seq fun K5 hK5 => ?_
      refine tr_fz [.ptr 0 0] (by simp (maxSteps := 4000000) (disch := first | assumption | omega | (simp only [go_sem, *]; done) | (simp only [go_sem, *]; omega)) only [go_sem, hq, Int.reduceToNat, Nat.reduceBEq, Nat.reduceEqDiff, Nat.reduceAdd, Nat.reduceMul, Nat.reduceLeDiff, Nat.reduceLT, Nat.reduceSub, ↓reduceIte, reduceCtorEq]; (try rfl)) ?_
      refine tr_draw [12, 13, 14] [1, 2, 4] mixed rfl (by kernel_rfl) rfl fun K hK => ?_
      iterate 4 refine evD_p ?_
      refine evD_c (hc := (k50 h hV)) (k := ?_)
      iterate 3 refine evD_p ?_
      refine evD_e hK ?_; clear hK K
      refine hK5 _ ?_
      refine tr_seq fun K6 hK6 => ?_
      refine tr_seq fun K7 hK7 => ?_
      refine tr_region [2, 4, 18, 19, 20] rfl rfl fun K hK => ?_
      iterate 4 refine evR_p ?_
      refine evR_e hK ?_; clear hK K
      refine hK7 _ ?_
      refine tr_block ?_
      -- loop 1: live [2, 4, 18, 19, 20]
      refine tr_loopW (fun m σ => ∃ i : Nat, i + m = h.offers.length ∧ σ = ⟨[(2, .ptr 1 0), (4, .ptr 2 0), (18, .sl 4 (encOfs h.offers)), (19, .int .i64 h.offers.length), (20, .int .i64 (i : Nat))], [(3, .row 3 1 (encI (valsT h i))), (2, .cells [.int .i64 h.offers.length, .sl 6 (encR (rowsH h)), .own 3]), (1, .cells [.int .i64 0, .nsl, .nsl])], 4⟩) (h.offers.length) ?_ ?_
      · exact ⟨_, Wk.nilown 3 1 2 2 rfl (Nat.le_of_ble_eq_true rfl) rfl, 0, by omega, rfl⟩
      · rintro m σ ⟨i, hi, rfl⟩ KL1 hKL1
        refine tr_seq fun K8 hK8 => ?_
        refine tr_region [2, 4, 18, 19, 20, 21] rfl rfl fun K hK => ?_
        refine evR_p ?_
        refine evR_e hK ?_; clear hK K
        refine hK8 _ ?_
        refine tr_seq fun K9 hK9 => ?_
        refine tr_condB (fun ht2 => ?_) (fun ht2 => ?_)
        · skip
          (first | (exfalso; simp_all; done) | skip)
          all_goals
            have hil : i < h.offers.length := by omega
            have hvl := valsT_len h i
            replace hq := And.intro hq (hil)
            refine tr_skip ?_
            (try simp only [thenE, inBlkE])
            refine hK9 _ ?_
            refine tr_seq fun K10 hK10 => ?_
            refine tr_block ?_
            refine tr_seq fun K11 hK11 => ?_
            refine tr_region [2, 4, 6, 18, 19, 20] rfl rfl fun K hK => ?_
            iterate 4 refine evR_p ?_
            refine evR_e hK ?_; clear hK K
            refine hK11 _ ?_
            refine tr_region [2, 4, 18, 19, 20] rfl rfl fun K hK => ?_
            iterate 4 refine evR_p ?_
            refine evR_bs ?_
            iterate 3 refine evR_p ?_
            refine evR_e hK ?_; clear hK K
            refine hK10 _ ?_
            refine tr_region [2, 4, 18, 19, 20] rfl rfl fun K hK => ?_
            iterate 2 refine evR_p ?_
            refine evR_e hK ?_; clear hK K
            refine hKL1 _ ?_
            exact ⟨m - 1, _, by omega, (Wk.trans (Wk.ren 5 3 (Nat.le_of_ble_eq_true rfl) (Nat.le_of_ble_eq_true rfl) rfl) (Wk.cut 4 rfl)), i + 1, by omega, by rw [w64 (x := (i : Int) + 1) (by omega), valsT_s hil, encI_snoc]; rfl⟩
        · skip
          (first | (exfalso; simp_all; done) | skip)
          all_goals
            have hil : i = h.offers.length := by omega
            subst hil
            refine tr_exit ?_
            simp only [thenE, inBlkE, Nat.reduceEqDiff, ↓reduceIte]
            refine hK6 _ ?_
            refine tr_seq fun K12 hK12 => ?_
            refine tr_region [2, 3] rfl rfl fun K hK => ?_
            iterate 3 refine evR_p ?_
            refine evR_e hK ?_; clear hK K
            refine hK12 _ ?_
            refine tr_ret ?_
            (try simp only [thenE, inBlkE])
            simp (maxSteps := 4000000) (disch := first | assumption | omega | (simp only [go_sem, *]; done) | (simp only [go_sem, *]; omega)) only [postA, postO, resV1, fzAll, go_sem, hq, Int.reduceToNat, Nat.reduceBEq, Nat.reduceEqDiff, Nat.reduceAdd, Nat.reduceMul, Nat.reduceLeDiff, Nat.reduceLT, Nat.reduceSub, ↓reduceIte, reduceCtorEq]
            all_goals ((rw [valsT_end]; rfl))

theorem k20n (h : Hr) (hr : h.rooms.length ≤ maxLen) (ho : h.offers.length ≤ maxLen) (ha : h.apart.length ≤ maxLen) (hm : h.must.length ≤ maxLen) (hv : validH h = false) : CallsA Tryd.prog 20 [.agg (encHr h)] (.tup [.agg [.int .i64 0, .nsl, .nsl], .int .i64 250]) := by
  have hq := hv
  refine callsA_of_tr Tryd.func20 rfl (Nat.le_of_ble_eq_true rfl) ?_
  simp only [Tryd.results20, envOf, Nat.reduceAdd]
  refine tr_seq fun K1 hK1 => ?_
  refine tr_region [1, 2] rfl rfl fun K hK => ?_
  iterate 3 refine evR_p ?_
  refine evR_e hK ?_; clear hK K
  refine hK1 _ ?_
  refine tr_seq fun K2 hK2 => ?_
  refine tr_seq fun K3 hK3 => ?_
  refine tr_region [1, 2, 9] rfl rfl fun K hK => ?_
  refine evR_p ?_
  refine evR_c (hc := (k19 h hr ho ha hm)) (k := ?_)
  refine evR_p ?_
  refine evR_e hK ?_; clear hK K
  refine hK3 _ ?_
  refine tr_condB (fun ht1 => ?_) (fun ht1 => ?_)
  · skip
    (first | (exfalso; simp_all; done) | skip)
    all_goals
      refine tr_seq fun K4 hK4 => ?_
      refine tr_region [2, 3] rfl rfl fun K hK => ?_
      iterate 3 refine evR_p ?_
      refine evR_e hK ?_; clear hK K
      refine hK4 _ ?_
      refine tr_ret ?_
      (try simp only [thenE, inBlkE])
      simp (maxSteps := 4000000) (disch := first | assumption | omega | (simp only [go_sem, *]; done) | (simp only [go_sem, *]; omega)) only [postA, postO, resV1, fzAll, go_sem, hq, Int.reduceToNat, Nat.reduceBEq, Nat.reduceEqDiff, Nat.reduceAdd, Nat.reduceMul, Nat.reduceLeDiff, Nat.reduceLT, Nat.reduceSub, ↓reduceIte, reduceCtorEq]
      all_goals (rfl)
  · skip
    (first | (exfalso; simp_all; done) | skip)
    all_goals
      refine tr_skip ?_
      (try simp only [thenE, inBlkE])
      refine hK2 _ ?_
      refine tr_seq fun K5 hK5 => ?_
      refine tr_fz [.ptr 0 0] (by simp (maxSteps := 4000000) (disch := first | assumption | omega | (simp only [go_sem, *]; done) | (simp only [go_sem, *]; omega)) only [go_sem, hq, Int.reduceToNat, Nat.reduceBEq, Nat.reduceEqDiff, Nat.reduceAdd, Nat.reduceMul, Nat.reduceLeDiff, Nat.reduceLT, Nat.reduceSub, ↓reduceIte, reduceCtorEq]; (try rfl)) ?_
      refine tr_draw [12, 13, 14] [1, 2, 4] mixed rfl (by kernel_rfl) rfl fun K hK => ?_
      iterate 4 refine evD_p ?_
      refine evD_c (hc := (k50 h (validH_all (by simp_all)))) (k := ?_)
      iterate 3 refine evD_p ?_
      refine evD_e hK ?_; clear hK K
      refine hK5 _ ?_
      refine tr_seq fun K6 hK6 => ?_
      refine tr_seq fun K7 hK7 => ?_
      refine tr_region [2, 4, 18, 19, 20] rfl rfl fun K hK => ?_
      iterate 4 refine evR_p ?_
      refine evR_e hK ?_; clear hK K
      refine hK7 _ ?_
      refine tr_block ?_
      -- loop 1: live [2, 4, 18, 19, 20]
      refine tr_loopW (fun m σ => ∃ i : Nat, i + m = h.offers.length ∧ σ = ⟨[(2, .ptr 1 0), (4, .ptr 2 0), (18, .sl 4 (encOfs h.offers)), (19, .int .i64 h.offers.length), (20, .int .i64 (i : Nat))], [(3, .row 3 1 (encI (valsT h i))), (2, .cells [.int .i64 h.offers.length, .sl 6 (encR (rowsH h)), .own 3]), (1, .cells [.int .i64 0, .nsl, .nsl])], 4⟩) (h.offers.length) ?_ ?_
      · exact ⟨_, Wk.nilown 3 1 2 2 rfl (Nat.le_of_ble_eq_true rfl) rfl, 0, by omega, rfl⟩
      · rintro m σ ⟨i, hi, rfl⟩ KL1 hKL1
        refine tr_seq fun K8 hK8 => ?_
        refine tr_region [2, 4, 18, 19, 20, 21] rfl rfl fun K hK => ?_
        refine evR_p ?_
        refine evR_e hK ?_; clear hK K
        refine hK8 _ ?_
        refine tr_seq fun K9 hK9 => ?_
        refine tr_condB (fun ht2 => ?_) (fun ht2 => ?_)
        · skip
          (first | (exfalso; simp_all; done) | skip)
          all_goals
            have hil : i < h.offers.length := by omega
            have hvl := valsT_len h i
            replace hq := And.intro hq (hil)
            refine tr_skip ?_
            (try simp only [thenE, inBlkE])
            refine hK9 _ ?_
            refine tr_seq fun K10 hK10 => ?_
            refine tr_block ?_
            refine tr_seq fun K11 hK11 => ?_
            refine tr_region [2, 4, 6, 18, 19, 20] rfl rfl fun K hK => ?_
            iterate 4 refine evR_p ?_
            refine evR_e hK ?_; clear hK K
            refine hK11 _ ?_
            refine tr_region [2, 4, 18, 19, 20] rfl rfl fun K hK => ?_
            iterate 4 refine evR_p ?_
            refine evR_bs ?_
            iterate 3 refine evR_p ?_
            refine evR_e hK ?_; clear hK K
            refine hK10 _ ?_
            refine tr_region [2, 4, 18, 19, 20] rfl rfl fun K hK => ?_
            iterate 2 refine evR_p ?_
            refine evR_e hK ?_; clear hK K
            refine hKL1 _ ?_
            exact ⟨m - 1, _, by omega, (Wk.trans (Wk.ren 5 3 (Nat.le_of_ble_eq_true rfl) (Nat.le_of_ble_eq_true rfl) rfl) (Wk.cut 4 rfl)), i + 1, by omega, by rw [w64 (x := (i : Int) + 1) (by omega), valsT_s hil, encI_snoc]; rfl⟩
        · skip
          (first | (exfalso; simp_all; done) | skip)
          all_goals
            have hil : i = h.offers.length := by omega
            subst hil
            refine tr_exit ?_
            simp only [thenE, inBlkE, Nat.reduceEqDiff, ↓reduceIte]
            refine hK6 _ ?_
            refine tr_seq fun K12 hK12 => ?_
            refine tr_region [2, 3] rfl rfl fun K hK => ?_
            iterate 3 refine evR_p ?_
            refine evR_e hK ?_; clear hK K
            refine hK12 _ ?_
            refine tr_ret ?_
            (try simp only [thenE, inBlkE])
            simp (maxSteps := 4000000) (disch := first | assumption | omega | (simp only [go_sem, *]; done) | (simp only [go_sem, *]; omega)) only [postA, postO, resV1, fzAll, go_sem, hq, Int.reduceToNat, Nat.reduceBEq, Nat.reduceEqDiff, Nat.reduceAdd, Nat.reduceMul, Nat.reduceLeDiff, Nat.reduceLT, Nat.reduceSub, ↓reduceIte, reduceCtorEq]
            all_goals (rfl)

end Go.Proofs.YtaaongcfeldcoaaDoor


namespace Go.Proofs.YtaaongcfeldcoaaDoor
open Go.RowKit
set_option linter.unusedVariables false
set_option linter.unusedSimpArgs false
set_option maxRecDepth 100000
attribute [local go_sem] Nat.zero_add Nat.add_zero Nat.mul_one eq_self ne_eq not_true_eq_false not_false_eq_true decide_true decide_false decide_not Bool.false_eq_true List.filter_cons List.filter_nil true_and and_true beq_false beq_true Bool.not_true Bool.not_false Bool.and_true Bool.true_and Option.getD_some Option.getD_none imp_self implies_true Int.toNat_natCast List.cons_append List.nil_append List.map_cons List.map_nil List.length_cons List.length_nil List.getD_cons_zero List.getD_cons_succ List.drop_zero List.drop_succ_cons List.take_succ_cons List.take_zero
attribute [local go_sem] lowN lowQ lowM isAl appF isE isO stpO notIn St.bare evO evDO isEff stp St.get St.slot St.put List.lookup un unL ofVal gof nth pickV pkB_false pkB_true binV unV loadV idxV fldV partV buildV fillV lenV sliV appV appR rowsV winV V.parts V.okp V.sc Mem.look_cons Mem.look_nil V.cl V.clL AObj.clo fzAll exps St.fz Mem.fz V.fz V.fzL AObj.fz Option.isSome_some Option.isSome_none Bool.or_true Bool.true_or Bool.or_false Bool.false_or false_and and_false false_or or_false   arT_29 arT_57  arT_33   arT_112 arT_95  arT_88 boolT_29 boolT_3 boolT_36 boolT_4 boolT_92 flatT_29 flatT_3 flatT_36 flatT_4 flatT_92 intT_3 intT_121  lay_29 lay_73 lay_57 lay_59 lay_3 lay_42 lay_33 lay_35 lay_4  lay_88  lay_92 lay_110 lay_85   okF_14  okF_28    okF_18  okF_21  okF_22                okF_59 okF_60 okF_61  okF_62 okF_63     okF_51 okF_52 okF_53 okF_54  okF_55   okF_56 okF_57 okF_58 okF_32  okF_82 okF_83  okF_84 okF_85 okF_86 okF_87   okF_78 okF_79 okF_80 okF_81  okF_94  okF_40 okF_99 okF_69 okF_68   plT_73 plT_59 plT_35 plT_90 plT_92   slT_29 slT_57  slT_33   slT_112 slT_95  slT_88 stT_73_0   stT_73_3 stT_73_4 stT_73_5 stT_59_0 stT_59_1 stT_59_2 stT_35_0 stT_35_1 stT_35_2 stT_35_3 stT_90_0 stT_90_1 stT_90_2 stT_90_3    zeroT_73 zeroT_59 zeroT_3 zeroT_42 zeroT_33 zeroT_35   zeroT_90 zeroT_92
attribute [local go_sem] List.getElem?_cons_zero List.getElem?_cons_succ List.zip_cons_cons List.zip_nil_left List.zip_nil_right Bool.false_and Bool.and_false List.length_append List.length_set List.length_replicate List.all_cons List.all_nil encI_length encI_getD encR_length encR_getD encRw encPg spl shp AObj.shp rowM isSt isRpS isRd csh AObj.csh forall_const imp_self
attribute [local simp] encI_length encR_length
theorem c53 (p : Pg) (hr : p.rows.length ≤ maxLen) (hg : p.gain.length ≤ maxLen) (hc : ∀ r ∈ p.rows, r.coef.length ≤ maxLen) (set : Int) : CallsA Tryd.prog 56 [.agg (encPg p), .int .i64 set] (.bool (choiceB p set)) := by
  have hvv := @validB_vars p
  have hq : True := trivial
  refine callsA_of_tr Tryd.func56 rfl (Nat.le_of_ble_eq_true rfl) ?_
  simp only [Tryd.results56, envOf, Nat.reduceAdd]
  refine tr_seq fun K1 hK1 => ?_
  refine tr_region [1, 2] rfl rfl fun K hK => ?_
  iterate 2 refine evR_p ?_
  refine evR_e hK ?_; clear hK K
  refine hK1 _ ?_
  refine tr_seq fun K2 hK2 => ?_
  refine tr_region [4] rfl rfl fun K hK => ?_
  refine evR_p ?_
  refine evR_c (hc := (c20 p hr hg hc)) (k := ?_)
  refine evR_p ?_
  iterate 5 refine evR_g ?_
  refine evR_gc (hc := (c49 _ _ _)) (k := ?_)
  iterate 2 refine evR_p ?_
  refine evR_e hK ?_; clear hK K
  refine hK2 _ ?_
  refine tr_ret ?_
  (try simp only [thenE, inBlkE])
  simp (maxSteps := 4000000) (disch := first | assumption | omega | (simp only [go_sem, *]; done) | (simp only [go_sem, *]; omega)) only [postA, postO, resV1, fzAll, go_sem, hq, Int.reduceToNat, Nat.reduceBEq, Nat.reduceEqDiff, Nat.reduceAdd, Nat.reduceMul, Nat.reduceLeDiff, Nat.reduceLT, Nat.reduceSub, ↓reduceIte, reduceCtorEq]
  all_goals (simp [choiceB])

theorem c54 (r : Rw) (hm : r.coef.length ≤ maxLen) (set : Int) : CallsA Tryd.prog 57 [.agg (encRw r), .ep [.int .i64 set]] (.bool (keptB r set)) := by
  have hq : True := trivial
  refine callsA_of_tr Tryd.func57 rfl (Nat.le_of_ble_eq_true rfl) ?_
  simp only [Tryd.results57, envOf, Nat.reduceAdd]
  refine tr_seq fun K1 hK1 => ?_
  refine tr_region [1, 2] rfl rfl fun K hK => ?_
  iterate 2 refine evR_p ?_
  refine evR_e hK ?_; clear hK K
  refine hK1 _ ?_
  refine tr_seq fun K2 hK2 => ?_
  refine tr_region [3] rfl rfl fun K hK => ?_
  iterate 2 refine evR_p ?_
  refine evR_c (hc := (c55 r hm set)) (k := ?_)
  refine evR_p ?_
  refine evR_e hK ?_; clear hK K
  refine hK2 _ ?_
  refine tr_ret ?_
  (try simp only [thenE, inBlkE])
  simp (maxSteps := 4000000) (disch := first | assumption | omega | (simp only [go_sem, *]; done) | (simp only [go_sem, *]; omega)) only [postA, postO, resV1, fzAll, go_sem, hq, Int.reduceToNat, Nat.reduceBEq, Nat.reduceEqDiff, Nat.reduceAdd, Nat.reduceMul, Nat.reduceLeDiff, Nat.reduceLT, Nat.reduceSub, ↓reduceIte, reduceCtorEq]
  all_goals (skip)

theorem c22 (p : Pg) (hr : p.rows.length ≤ maxLen) (hg : p.gain.length ≤ maxLen) (hc : ∀ r ∈ p.rows, r.coef.length ≤ maxLen) (set : Int) : CallsA Tryd.prog 22 [.agg (encPg p), .int .i64 set] (.bool (keepsB p set)) := by
  have hq : True := trivial
  refine callsA_of_tr Tryd.func22 rfl (Nat.le_of_ble_eq_true rfl) ?_
  simp only [Tryd.results22, envOf, Nat.reduceAdd]
  refine tr_seq fun K1 hK1 => ?_
  refine tr_region [2, 3] rfl rfl fun K hK => ?_
  iterate 3 refine evR_p ?_
  refine evR_e hK ?_; clear hK K
  refine hK1 _ ?_
  refine tr_seq fun K2 hK2 => ?_
  refine tr_fz [.ptr 1 0] (by simp (maxSteps := 4000000) (disch := first | assumption | omega | (simp only [go_sem, *]; done) | (simp only [go_sem, *]; omega)) only [go_sem, hq, Int.reduceToNat, Nat.reduceBEq, Nat.reduceEqDiff, Nat.reduceAdd, Nat.reduceMul, Nat.reduceLeDiff, Nat.reduceLT, Nat.reduceSub, ↓reduceIte, reduceCtorEq]; (try rfl)) ?_
  refine tr_region [4] rfl rfl fun K hK => ?_
  iterate 2 refine evR_p ?_
  refine evR_c (hc := (c53 p hr hg hc set)) (k := ?_)
  refine evR_p ?_
  iterate 3 refine evR_g ?_
  refine evR_gc (hc := (c46 p.rows 57 [.ep [.int .i64 set]] (fun r => keptB r set) okF_57 rfl (fun r h => c54 r (hc r h) set) hr)) (k := ?_)
  iterate 2 refine evR_p ?_
  refine evR_e hK ?_; clear hK K
  refine hK2 _ ?_
  refine tr_ret ?_
  (try simp only [thenE, inBlkE])
  simp (maxSteps := 4000000) (disch := first | assumption | omega | (simp only [go_sem, *]; done) | (simp only [go_sem, *]; omega)) only [postA, postO, resV1, fzAll, go_sem, hq, Int.reduceToNat, Nat.reduceBEq, Nat.reduceEqDiff, Nat.reduceAdd, Nat.reduceMul, Nat.reduceLeDiff, Nat.reduceLT, Nat.reduceSub, ↓reduceIte, reduceCtorEq]
  all_goals (simp [keepsB])

end Go.Proofs.YtaaongcfeldcoaaDoor


namespace Go.Proofs.YtaaongcfeldcoaaDoor
open Go.RowKit
set_option linter.unusedVariables false
set_option linter.unusedSimpArgs false
set_option maxRecDepth 100000
attribute [local go_sem] Nat.zero_add Nat.add_zero Nat.mul_one eq_self ne_eq not_true_eq_false not_false_eq_true decide_true decide_false decide_not Bool.false_eq_true List.filter_cons List.filter_nil true_and and_true beq_false beq_true Bool.not_true Bool.not_false Bool.and_true Bool.true_and Option.getD_some Option.getD_none imp_self implies_true Int.toNat_natCast List.cons_append List.nil_append List.map_cons List.map_nil List.length_cons List.length_nil List.getD_cons_zero List.getD_cons_succ List.drop_zero List.drop_succ_cons List.take_succ_cons List.take_zero
attribute [local go_sem] lowN lowQ lowM isAl appF isE isO stpO notIn St.bare evO evDO isEff stp St.get St.slot St.put List.lookup un unL ofVal gof nth pickV pkB_false pkB_true binV unV loadV idxV fldV partV buildV fillV lenV sliV appV appR rowsV winV V.parts V.okp V.sc Mem.look_cons Mem.look_nil V.cl V.clL AObj.clo fzAll exps St.fz Mem.fz V.fz V.fzL AObj.fz Option.isSome_some Option.isSome_none Bool.or_true Bool.true_or Bool.or_false Bool.false_or false_and and_false false_or or_false   arT_29 arT_57  arT_33   arT_112 arT_95  arT_88 boolT_29 boolT_3 boolT_36 boolT_4 boolT_92 flatT_29 flatT_3 flatT_36 flatT_4 flatT_92 intT_3 intT_121  lay_29 lay_73 lay_57 lay_59 lay_3 lay_42 lay_33 lay_35 lay_4  lay_88  lay_92 lay_110 lay_85   okF_14  okF_28    okF_18  okF_21  okF_22                okF_59 okF_60 okF_61  okF_62 okF_63     okF_51 okF_52 okF_53 okF_54  okF_55   okF_56 okF_57 okF_58 okF_32  okF_82 okF_83  okF_84 okF_85 okF_86 okF_87   okF_78 okF_79 okF_80 okF_81  okF_94  okF_40 okF_99 okF_69 okF_68   plT_73 plT_59 plT_35 plT_90 plT_92   slT_29 slT_57  slT_33   slT_112 slT_95  slT_88 stT_73_0   stT_73_3 stT_73_4 stT_73_5 stT_59_0 stT_59_1 stT_59_2 stT_35_0 stT_35_1 stT_35_2 stT_35_3 stT_90_0 stT_90_1 stT_90_2 stT_90_3    zeroT_73 zeroT_59 zeroT_3 zeroT_42 zeroT_33 zeroT_35   zeroT_90 zeroT_92
attribute [local go_sem] List.getElem?_cons_zero List.getElem?_cons_succ List.zip_cons_cons List.zip_nil_left List.zip_nil_right Bool.false_and Bool.and_false List.length_append List.length_set List.length_replicate List.all_cons List.all_nil encI_length encI_getD encR_length encR_getD encRw encPg spl shp AObj.shp rowM isSt isRpS isRd csh AObj.csh forall_const imp_self
attribute [local simp] encI_length encR_length
theorem c40 (p : Pg) (hg : p.gain.length ≤ 1000) (gain : Int) : CallsA Tryd.prog 62 [.agg (encPg p), .int .i64 gain] (.agg (encRw (goalW p gain))) := by
  have hq : True := trivial
  refine callsA_of_tr Tryd.func62 rfl (Nat.le_of_ble_eq_true rfl) ?_
  simp only [Tryd.results62, envOf, Nat.reduceAdd]
  refine tr_seq fun K1 hK1 => ?_
  refine tr_region [1, 2, 4] rfl rfl fun K hK => ?_
  iterate 2 refine evR_p ?_
  refine evR_e hK ?_; clear hK K
  refine hK1 _ ?_
  refine tr_seq fun K2 hK2 => ?_
  refine tr_region [2, 4, 5] rfl rfl fun K hK => ?_
  iterate 6 refine evR_p ?_
  refine evR_e hK ?_; clear hK K
  refine hK2 _ ?_
  refine tr_seq fun K3 hK3 => ?_
  refine tr_seq fun K4 hK4 => ?_
  refine tr_region [4, 5, 13, 14, 15] rfl rfl fun K hK => ?_
  iterate 4 refine evR_p ?_
  refine evR_e hK ?_; clear hK K
  refine hK4 _ ?_
  refine tr_block ?_
  -- loop 1: live [4, 5, 13, 14, 15]
  refine tr_loopW (fun m σ => ∃ i, i + m = p.gain.length ∧ σ = ⟨[(4, .ptr 1 0), (5, .ptr 2 0), (13, .sl 1 (encI p.gain)), (14, .int .i64 p.gain.length), (15, .int .i64 (i : Nat))], [(3, .row 3 1 (encI (negG p.gain i))), (2, .cells [.int .i64 0, .int .i64 0, .int .i64 0, .int .i64 0, .own 3, .int .i64 (IntKind.i64.wrap (0 - IntKind.i64.wrap (gain + 1)))]), (1, .cells [.int .i64 0, .int .i64 0, .int .i64 0, .int .i64 0, .nsl, .int .i64 0]), (0, .cells (encPg p))], 4⟩) (p.gain.length) ?_ ?_
  · exact ⟨_, Wk.nilown 3 1 2 4 rfl (Nat.le_of_ble_eq_true rfl) rfl, 0, by omega, rfl⟩
  · rintro m σ ⟨i, hi, rfl⟩ KL1 hKL1
    refine tr_seq fun K5 hK5 => ?_
    refine tr_region [4, 5, 13, 14, 15, 16] rfl rfl fun K hK => ?_
    refine evR_p ?_
    refine evR_e hK ?_; clear hK K
    refine hK5 _ ?_
    refine tr_seq fun K6 hK6 => ?_
    refine tr_condB (fun ht1 => ?_) (fun ht1 => ?_)
    · skip
      have hil : i < p.gain.length := by omega
      have hnl := negG_length p.gain i
      replace hq := And.intro hq (And.intro hil (hnl))
      refine tr_skip ?_
      (try simp only [thenE, inBlkE])
      refine hK6 _ ?_
      refine tr_seq fun K7 hK7 => ?_
      refine tr_block ?_
      refine tr_seq fun K8 hK8 => ?_
      refine tr_region [4, 5, 7, 13, 14, 15] rfl rfl fun K hK => ?_
      iterate 3 refine evR_p ?_
      refine evR_e hK ?_; clear hK K
      refine hK8 _ ?_
      refine tr_region [4, 5, 13, 14, 15] rfl rfl fun K hK => ?_
      iterate 4 refine evR_p ?_
      refine evR_bs ?_
      iterate 3 refine evR_p ?_
      refine evR_e hK ?_; clear hK K
      refine hK7 _ ?_
      refine tr_region [4, 5, 13, 14, 15] rfl rfl fun K hK => ?_
      iterate 2 refine evR_p ?_
      refine evR_e hK ?_; clear hK K
      refine hKL1 _ ?_
      exact ⟨m - 1, _, by omega, (Wk.trans (Wk.ren 4 3 (Nat.le_of_ble_eq_true rfl) (Nat.le_of_ble_eq_true rfl) rfl) (Wk.cut 4 rfl)), i + 1, by omega, by rw [w64 (x := (i : Int) + 1) (by omega), negG_succ hil, encI_snoc]; rfl⟩
    · skip
      have hil : i = p.gain.length := by omega
      subst hil
      refine tr_exit ?_
      simp only [thenE, inBlkE, Nat.reduceEqDiff, ↓reduceIte]
      refine hK3 _ ?_
      refine tr_seq fun K9 hK9 => ?_
      refine tr_region [4] rfl rfl fun K hK => ?_
      iterate 2 refine evR_p ?_
      refine evR_e hK ?_; clear hK K
      refine hK9 _ ?_
      refine tr_ret ?_
      (try simp only [thenE, inBlkE])
      simp (maxSteps := 4000000) (disch := first | assumption | omega | (simp only [go_sem, *]; done) | (simp only [go_sem, *]; omega)) only [postA, postO, resV1, fzAll, go_sem, hq, Int.reduceToNat, Nat.reduceBEq, Nat.reduceEqDiff, Nat.reduceAdd, Nat.reduceMul, Nat.reduceLeDiff, Nat.reduceLT, Nat.reduceSub, ↓reduceIte, reduceCtorEq]
      all_goals (rfl)

end Go.Proofs.YtaaongcfeldcoaaDoor


namespace Go.Proofs.YtaaongcfeldcoaaDoor
open Go.RowKit
set_option linter.unusedVariables false
set_option linter.unusedSimpArgs false
set_option maxRecDepth 100000
attribute [local go_sem] Nat.zero_add Nat.add_zero Nat.mul_one eq_self ne_eq not_true_eq_false not_false_eq_true decide_true decide_false decide_not Bool.false_eq_true List.filter_cons List.filter_nil true_and and_true beq_false beq_true Bool.not_true Bool.not_false Bool.and_true Bool.true_and Option.getD_some Option.getD_none imp_self implies_true Int.toNat_natCast List.cons_append List.nil_append List.map_cons List.map_nil List.length_cons List.length_nil List.getD_cons_zero List.getD_cons_succ List.drop_zero List.drop_succ_cons List.take_succ_cons List.take_zero
attribute [local go_sem] lowN lowQ lowM isAl appF isE isO stpO notIn St.bare evO evDO isEff stp St.get St.slot St.put List.lookup un unL ofVal gof nth pickV pkB_false pkB_true binV unV loadV idxV fldV partV buildV fillV lenV sliV appV appR rowsV winV V.parts V.okp V.sc Mem.look_cons Mem.look_nil V.cl V.clL AObj.clo fzAll exps St.fz Mem.fz V.fz V.fzL AObj.fz Option.isSome_some Option.isSome_none Bool.or_true Bool.true_or Bool.or_false Bool.false_or false_and and_false false_or or_false   arT_29 arT_57  arT_33   arT_112 arT_95  arT_88 boolT_29 boolT_3 boolT_36 boolT_4 boolT_92 flatT_29 flatT_3 flatT_36 flatT_4 flatT_92 intT_3 intT_121  lay_29 lay_73 lay_57 lay_59 lay_3 lay_42 lay_33 lay_35 lay_4  lay_88  lay_92 lay_110 lay_85   okF_14  okF_28    okF_18  okF_21  okF_22                okF_59 okF_60 okF_61  okF_62 okF_63     okF_51 okF_52 okF_53 okF_54  okF_55   okF_56 okF_57 okF_58 okF_32  okF_82 okF_83  okF_84 okF_85 okF_86 okF_87   okF_78 okF_79 okF_80 okF_81  okF_94  okF_40 okF_99 okF_69 okF_68   plT_73 plT_59 plT_35 plT_90 plT_92   slT_29 slT_57  slT_33   slT_112 slT_95  slT_88 stT_73_0   stT_73_3 stT_73_4 stT_73_5 stT_59_0 stT_59_1 stT_59_2 stT_35_0 stT_35_1 stT_35_2 stT_35_3 stT_90_0 stT_90_1 stT_90_2 stT_90_3    zeroT_73 zeroT_59 zeroT_3 zeroT_42 zeroT_33 zeroT_35   zeroT_90 zeroT_92
attribute [local go_sem] List.getElem?_cons_zero List.getElem?_cons_succ List.zip_cons_cons List.zip_nil_left List.zip_nil_right Bool.false_and Bool.and_false List.length_append List.length_set List.length_replicate List.all_cons List.all_nil encI_length encI_getD encR_length encR_getD encRw encPg spl shp AObj.shp rowM isSt isRpS isRd csh AObj.csh forall_const imp_self
attribute [local simp] encI_length encR_length
section
attribute [local go_sem] encI_take encI_drop
theorem c63 (r : Rw) (hm : r.coef.length ≤ maxLen) (d : Nat) (set : Int) (hd : d ≤ r.coef.length) : CallsA Tryd.prog 87 [.agg (encRw r), .int .i64 d, .int .i64 set] (.int .i64 (leastW r d set)) := by
  have hm0 := hm
  unfold maxLen at hm0
  have hq : True := trivial
  refine callsA_of_tr Tryd.func87 rfl (Nat.le_of_ble_eq_true rfl) ?_
  simp only [Tryd.results87, envOf, Nat.reduceAdd]
  refine tr_seq fun K1 hK1 => ?_
  refine tr_region [1, 2, 3] rfl rfl fun K hK => ?_
  iterate 2 refine evR_p ?_
  refine evR_e hK ?_; clear hK K
  refine hK1 _ ?_
  refine tr_seq fun K2 hK2 => ?_
  refine tr_region [1, 3, 7] rfl rfl fun K hK => ?_
  iterate 5 refine evR_p ?_
  refine evR_c (hc := (c39 _ _ (by simp only [List.length_take, maxLen]; omega))) (k := ?_)
  refine evR_p ?_
  refine evR_e hK ?_; clear hK K
  refine hK2 _ ?_
  refine tr_seq fun K3 hK3 => ?_
  refine tr_seq fun K4 hK4 => ?_
  refine tr_region [7, 19, 20, 21] rfl rfl fun K hK => ?_
  iterate 6 refine evR_p ?_
  refine evR_e hK ?_; clear hK K
  refine hK4 _ ?_
  refine tr_block ?_
  -- loop 1: live [7, 19, 20, 21]
  refine tr_loopW (fun m σ => ∃ i, i + m = (r.coef.drop d).length ∧ σ = ⟨[(7, .int .i64 (leastT (r.coef.drop d) (chosenW (r.coef.take d) set) i)), (19, .sl 1 (encI (r.coef.drop d))), (20, .int .i64 (r.coef.drop d).length), (21, .int .i64 (i : Nat))], [(0, .cells (encRw r))], 1⟩) ((r.coef.drop d).length) ?_ ?_
  · exact ⟨_, Wk.refl _, 0, by omega, rfl⟩
  · rintro m σ ⟨i, hi, rfl⟩ KL1 hKL1
    refine tr_seq fun K5 hK5 => ?_
    refine tr_region [7, 19, 20, 21, 22] rfl rfl fun K hK => ?_
    refine evR_p ?_
    refine evR_e hK ?_; clear hK K
    refine hK5 _ ?_
    refine tr_seq fun K6 hK6 => ?_
    refine tr_condB (fun ht1 => ?_) (fun ht1 => ?_)
    · skip
      have hil : i < (r.coef.drop d).length := by omega
      have hl2 : (r.coef.drop d).length ≤ r.coef.length := by simp
      replace hq := And.intro hq (hil)
      refine tr_skip ?_
      (try simp only [thenE, inBlkE])
      refine hK6 _ ?_
      refine tr_seq fun K7 hK7 => ?_
      refine tr_block ?_
      refine tr_seq fun K8 hK8 => ?_
      refine tr_region [7, 9, 19, 20, 21] rfl rfl fun K hK => ?_
      iterate 3 refine evR_p ?_
      refine evR_e hK ?_; clear hK K
      refine hK8 _ ?_
      refine tr_region [7, 19, 20, 21] rfl rfl fun K hK => ?_
      iterate 5 refine evR_p ?_
      refine evR_e hK ?_; clear hK K
      refine hK7 _ ?_
      refine tr_region [7, 19, 20, 21] rfl rfl fun K hK => ?_
      iterate 2 refine evR_p ?_
      refine evR_e hK ?_; clear hK K
      refine hKL1 _ ?_
      exact ⟨m - 1, _, by omega, Wk.refl _, i + 1, by omega, by rw [w64 (x := (i : Int) + 1) (by omega)]; rfl⟩
    · skip
      have hil : i = (r.coef.drop d).length := by omega
      subst hil
      refine tr_exit ?_
      simp only [thenE, inBlkE, Nat.reduceEqDiff, ↓reduceIte]
      refine hK3 _ ?_
      refine tr_seq fun K9 hK9 => ?_
      refine tr_region [6] rfl rfl fun K hK => ?_
      iterate 2 refine evR_p ?_
      refine evR_e hK ?_; clear hK K
      refine hK9 _ ?_
      refine tr_ret ?_
      (try simp only [thenE, inBlkE])
      simp (maxSteps := 4000000) (disch := first | assumption | omega | (simp only [go_sem, *]; done) | (simp only [go_sem, *]; omega)) only [postA, postO, resV1, fzAll, go_sem, hq, Int.reduceToNat, Nat.reduceBEq, Nat.reduceEqDiff, Nat.reduceAdd, Nat.reduceMul, Nat.reduceLeDiff, Nat.reduceLT, Nat.reduceSub, ↓reduceIte, reduceCtorEq]
      all_goals (rfl)
end

theorem c62 (r : Rw) (hm : r.coef.length ≤ maxLen) (d : Nat) (set : Int) (hd : d ≤ r.coef.length) : CallsA Tryd.prog 86 [.agg (encRw r), .ep [.int .i64 d], .ep [.int .i64 set]] (.bool (overB d set r)) := by
  have hq : True := trivial
  refine callsA_of_tr Tryd.func86 rfl (Nat.le_of_ble_eq_true rfl) ?_
  simp only [Tryd.results86, envOf, Nat.reduceAdd]
  refine tr_seq fun K1 hK1 => ?_
  refine tr_region [1, 2, 3] rfl rfl fun K hK => ?_
  iterate 2 refine evR_p ?_
  refine evR_e hK ?_; clear hK K
  refine hK1 _ ?_
  refine tr_seq fun K2 hK2 => ?_
  refine tr_draw [] [4] mixed rfl (by kernel_rfl) rfl fun K hK => ?_
  iterate 3 refine evD_p ?_
  refine evD_c (hc := (c63 r hm d set hd)) (k := ?_)
  iterate 4 refine evD_p ?_
  refine evD_e hK ?_; clear hK K
  refine hK2 _ ?_
  refine tr_ret ?_
  (try simp only [thenE, inBlkE])
  simp (maxSteps := 4000000) (disch := first | assumption | omega | (simp only [go_sem, *]; done) | (simp only [go_sem, *]; omega)) only [postA, postO, resV1, fzAll, go_sem, hq, Int.reduceToNat, Nat.reduceBEq, Nat.reduceEqDiff, Nat.reduceAdd, Nat.reduceMul, Nat.reduceLeDiff, Nat.reduceLT, Nat.reduceSub, ↓reduceIte, reduceCtorEq]
  all_goals (rfl)

end Go.Proofs.YtaaongcfeldcoaaDoor


namespace Go.Proofs.YtaaongcfeldcoaaDoor
open Go.RowKit
set_option linter.unusedVariables false
set_option linter.unusedSimpArgs false
set_option maxRecDepth 100000
attribute [local go_sem] Nat.zero_add Nat.add_zero Nat.mul_one eq_self ne_eq not_true_eq_false not_false_eq_true decide_true decide_false decide_not Bool.false_eq_true List.filter_cons List.filter_nil true_and and_true beq_false beq_true Bool.not_true Bool.not_false Bool.and_true Bool.true_and Option.getD_some Option.getD_none imp_self implies_true Int.toNat_natCast List.cons_append List.nil_append List.map_cons List.map_nil List.length_cons List.length_nil List.getD_cons_zero List.getD_cons_succ List.drop_zero List.drop_succ_cons List.take_succ_cons List.take_zero
attribute [local go_sem] lowN lowQ lowM isAl appF isE isO stpO notIn St.bare evO evDO isEff stp St.get St.slot St.put List.lookup un unL ofVal gof nth pickV pkB_false pkB_true binV unV loadV idxV fldV partV buildV fillV lenV sliV appV appR rowsV winV V.parts V.okp V.sc Mem.look_cons Mem.look_nil V.cl V.clL AObj.clo fzAll exps St.fz Mem.fz V.fz V.fzL AObj.fz Option.isSome_some Option.isSome_none Bool.or_true Bool.true_or Bool.or_false Bool.false_or false_and and_false false_or or_false   arT_29 arT_57  arT_33   arT_112 arT_95  arT_88 boolT_29 boolT_3 boolT_36 boolT_4 boolT_92 flatT_29 flatT_3 flatT_36 flatT_4 flatT_92 intT_3 intT_121  lay_29 lay_73 lay_57 lay_59 lay_3 lay_42 lay_33 lay_35 lay_4  lay_88  lay_92 lay_110 lay_85   okF_14  okF_28    okF_18  okF_21  okF_22                okF_59 okF_60 okF_61  okF_62 okF_63     okF_51 okF_52 okF_53 okF_54  okF_55   okF_56 okF_57 okF_58 okF_32  okF_82 okF_83  okF_84 okF_85 okF_86 okF_87   okF_78 okF_79 okF_80 okF_81  okF_94  okF_40 okF_99 okF_69 okF_68   plT_73 plT_59 plT_35 plT_90 plT_92   slT_29 slT_57  slT_33   slT_112 slT_95  slT_88 stT_73_0   stT_73_3 stT_73_4 stT_73_5 stT_59_0 stT_59_1 stT_59_2 stT_35_0 stT_35_1 stT_35_2 stT_35_3 stT_90_0 stT_90_1 stT_90_2 stT_90_3    zeroT_73 zeroT_59 zeroT_3 zeroT_42 zeroT_33 zeroT_35   zeroT_90 zeroT_92
attribute [local go_sem] List.getElem?_cons_zero List.getElem?_cons_succ List.zip_cons_cons List.zip_nil_left List.zip_nil_right Bool.false_and Bool.and_false List.length_append List.length_set List.length_replicate List.all_cons List.all_nil encI_length encI_getD encR_length encR_getD encRw encPg spl shp AObj.shp rowM isSt isRpS isRd csh AObj.csh forall_const imp_self
attribute [local simp] encI_length encR_length
section
attribute [local go_sem] encS_one encS_leaf encS_length
theorem c60s (rows : List Rw) (hr : rows.length ≤ maxLen) (hm : ∀ r ∈ rows, r.coef.length ≤ maxLen) (n d : Nat) (set : Int) (out : List Stp) (hc : ∀ r ∈ rows, r.coef.length = d + n) (hd : d + n ≤ 12) (hinf : infN rows n d set) (ho : out.length + 2 ^ (n + 1) ≤ 100000)
    (ih : ∀ (m : Nat), m + 1 = n → ∀ (set : Int) (out : List Stp), infN rows m (d + 1) set → out.length + 2 ^ (m + 1) ≤ 100000 → CallsM Tryd.prog 84 [.int .i64 ((d + 1 : Nat) : Int), .int .i64 set, .ptr 1 0, .ptr 0 0, .ptr 2 0] [(3, .row 90 4 (encS out)), (2, .cells [.fn 84 [.ptr 1 0, .ptr 0 0, .ptr 2 0]]), (1, .cells [.own 3]), (0, .cells [.sl 6 (encR rows)])] 4 (.int .i64 ((out).length : Nat)) [(4, .row 90 4 (encS (growN rows m (d + 1) set out))), (2, .cells [.fn 84 [.ptr 1 0, .ptr 0 0, .ptr 2 0]]), (1, .cells [.own 4]), (0, .cells [.sl 6 (encR rows)])] 5) : CallsM Tryd.prog 84 [.int .i64 (d : Nat), .int .i64 set, .ptr 1 0, .ptr 0 0, .ptr 2 0] ([(3, .row 90 4 (encS out)), (2, .cells [.fn 84 [.ptr 1 0, .ptr 0 0, .ptr 2 0]]), (1, .cells [.own 3]), (0, .cells [.sl 6 (encR rows)])]) (4) (.int .i64 (out.length : Nat)) ([(4, .row 90 4 (encS (growN rows n d set out))), (2, .cells [.fn 84 [.ptr 1 0, .ptr 0 0, .ptr 2 0]]), (1, .cells [.own 4]), (0, .cells [.sl 6 (encR rows)])]) (5) := by
  have hw1 : IntKind.i64.wrap ((d : Int) + 1) = ((d + 1 : Nat) : Int) := w64 (by omega)
  have hp2 : 2 ≤ 2 ^ (n + 1) := (by have := Nat.one_le_two_pow (n := n); rw [Nat.pow_succ]; omega)
  have hq := hw1
  refine callsM_of_tr Tryd.func84 rfl (Nat.le_of_ble_eq_true rfl) (Nat.le_of_ble_eq_true rfl) (Nat.le_of_ble_eq_true rfl) ?_
  simp only [Tryd.results84, envOf, gh, gv, List.cons_append, List.nil_append, Nat.reduceAdd]
  refine tr_seq fun K1 hK1 => ?_
  refine tr_region [2, 3, 4, 5, 6, 1000000, 1000001, 1000002, 1000003] rfl rfl fun K hK => ?_
  iterate 3 refine evR_p ?_
  refine evR_e hK ?_; clear hK K
  refine hK1 _ ?_
  refine tr_seq fun K2 hK2 => ?_
  refine tr_region [2, 3, 4, 5, 6, 8, 1000000, 1000001, 1000002, 1000003] rfl rfl fun K hK => ?_
  iterate 3 refine evR_p ?_
  refine evR_e hK ?_; clear hK K
  refine hK2 _ ?_
  refine tr_seq fun K3 hK3 => ?_
  refine tr_region [2, 4, 5, 6, 8, 9, 1000000, 1000001, 1000002, 1000003] rfl rfl fun K hK => ?_
  iterate 2 refine evR_p ?_
  refine evR_c (hc := (c61 rows 86 [.ep [.int .i64 d], .ep [.int .i64 set]] (overB d set) okF_86 rfl (fun r h => c62 r (hm r h) d set (by rw [hc r h]; omega)) hr)) (k := ?_)
  refine evR_p ?_
  refine evR_e hK ?_; clear hK K
  refine hK3 _ ?_
  refine tr_seq fun K4 hK4 => ?_
  refine tr_seq fun K5 hK5 => ?_
  refine tr_region [2, 4, 5, 6, 8, 9, 18, 1000000, 1000001, 1000002, 1000003] rfl rfl fun K hK => ?_
  iterate 2 refine evR_p ?_
  refine evR_e hK ?_; clear hK K
  refine hK5 _ ?_
  refine tr_condB (fun ht1 => ?_) (fun ht1 => ?_)
  · skip
    (first | (have hneg : ¬ (0 ≤ idxOf (overB d set) rows) := ht1; obtain ⟨m, hnm, hi1, hi2⟩ := infN_step hinf hneg; have hg1 := growN_length rows m (d + 1) set (out ++ [⟨d, 0, 0, none⟩]); have hg2 := growN_length rows m (d + 1) (setBit set d) (growN rows m (d + 1) set (out ++ [⟨d, 0, 0, none⟩])); simp only [List.length_append, List.length_cons, List.length_nil] at hg1) | skip)
    refine tr_seq fun K6 hK6 => ?_
    refine tr_region [8, 1000000, 1000001, 1000002, 1000003] rfl rfl fun K hK => ?_
    iterate 3 refine evR_p ?_
    refine evR_bs ?_
    refine evR_p ?_
    refine evR_bs ?_
    iterate 2 refine evR_p ?_
    refine evR_e hK ?_; clear hK K
    refine hK6 _ ?_
    refine tr_seq fun K7 hK7 => ?_
    refine tr_region [7, 1000000, 1000001, 1000002, 1000003] rfl rfl fun K hK => ?_
    iterate 2 refine evR_p ?_
    refine evR_e hK ?_; clear hK K
    refine hK7 _ ?_
    refine tr_ret ?_
    (try simp only [thenE, inBlkE])
    all_goals first | refine ⟨_, (Wk.trans (Wk.ren 6 4 (Nat.le_of_ble_eq_true rfl) (Nat.le_of_ble_eq_true rfl) rfl) (Wk.cut 5 rfl)), ?_⟩ | refine ⟨_, (Wk.trans (Wk.ren 8 4 (Nat.le_of_ble_eq_true rfl) (Nat.le_of_ble_eq_true rfl) rfl) (Wk.cut 5 rfl)), ?_⟩
    simp (maxSteps := 4000000) (disch := first | assumption | omega | (simp only [go_sem, *]; done) | (simp only [go_sem, *]; omega)) only [postM, ghOK, gv, St.ren, St.cut, V.ren, V.renL, AObj.ren, Nat.blt_eq, resV1, go_sem, hq, Int.reduceToNat, Nat.reduceBEq, Nat.reduceEqDiff, Nat.reduceAdd, Nat.reduceMul, Nat.reduceLeDiff, Nat.reduceLT, Nat.reduceSub, ↓reduceIte, reduceCtorEq]
    all_goals ((first | (rw [growN_leaf ht1]; done) | (subst hnm; rw [grow_fin (by omega) growN_at]; simp only [growN, if_neg hneg]; rfl)))
  · skip
    (first | (have hneg : ¬ (0 ≤ idxOf (overB d set) rows) := ht1; obtain ⟨m, hnm, hi1, hi2⟩ := infN_step hinf hneg; have hg1 := growN_length rows m (d + 1) set (out ++ [⟨d, 0, 0, none⟩]); have hg2 := growN_length rows m (d + 1) (setBit set d) (growN rows m (d + 1) set (out ++ [⟨d, 0, 0, none⟩])); simp only [List.length_append, List.length_cons, List.length_nil] at hg1) | skip)
    refine tr_skip ?_
    (try simp only [thenE, inBlkE])
    refine hK4 _ ?_
    refine tr_seq fun K8 hK8 => ?_
    refine tr_region [2, 4, 5, 6, 8, 1000000, 1000001, 1000002, 1000003] rfl rfl fun K hK => ?_
    iterate 3 refine evR_p ?_
    refine evR_bs ?_
    iterate 2 refine evR_p ?_
    refine evR_e hK ?_; clear hK K
    refine hK8 _ ?_
    refine tr_seq fun K9 hK9 => ?_
    refine tr_region [2, 4, 5, 6, 8, 10, 1000000, 1000001, 1000002, 1000003] rfl rfl fun K hK => ?_
    iterate 4 refine evR_p ?_
    refine evR_stepX fun Kq hKq => Or.inr ?_
    simp (maxSteps := 4000000) (disch := first | assumption | omega | (simp only [go_sem, *]; done) | (simp only [go_sem, *]; omega)) only [stpM, go_sem, hq, Int.reduceToNat, Nat.reduceBEq, Nat.reduceEqDiff, Nat.reduceAdd, Nat.reduceMul, Nat.reduceLeDiff, Nat.reduceLT, Nat.reduceSub, ↓reduceIte, reduceCtorEq]
    refine ⟨[0, 1, 2, 6], ?_⟩
    simp (maxSteps := 4000000) (disch := first | assumption | omega | (simp only [go_sem, *]; done) | (simp only [go_sem, *]; omega)) only [V.mapL, V.map, gJ, footJ, inJ, AObj.map, ndJ, ltJ, V.domL, V.dom, AObj.dom, kC, kR, AObj.isC, hJ, backJ, List.any_cons, List.any_nil, Nat.ble_eq, Nat.blt_eq, Nat.reduceLT, Nat.reduceLeDiff, Bool.or_true, Bool.true_or, Bool.or_false, Bool.false_or, Bool.and_self, go_sem, hq, Int.reduceToNat, Nat.reduceBEq, Nat.reduceEqDiff, Nat.reduceAdd, Nat.reduceMul, Nat.reduceLeDiff, Nat.reduceLT, Nat.reduceSub, ↓reduceIte, reduceCtorEq]
    refine ⟨_, _, _, (ih m hnm set _ hi1 (by subst hnm; rw [Nat.pow_succ] at ho; simp only [List.length_append, List.length_cons, List.length_nil]; omega)), ?_⟩
    simp (maxSteps := 4000000) (disch := first | assumption | omega | (simp only [go_sem, *]; done) | (simp only [go_sem, *]; omega)) only [V.mapL, V.map, gJ, footJ, inJ, AObj.map, ndJ, ltJ, V.domL, V.dom, AObj.dom, kC, kR, AObj.isC, hJ, backJ, List.any_cons, List.any_nil, Nat.ble_eq, Nat.blt_eq, Nat.reduceLT, Nat.reduceLeDiff, Bool.or_true, Bool.true_or, Bool.or_false, Bool.false_or, Bool.and_self, go_sem, hq, Int.reduceToNat, Nat.reduceBEq, Nat.reduceEqDiff, Nat.reduceAdd, Nat.reduceMul, Nat.reduceLeDiff, Nat.reduceLT, Nat.reduceSub, ↓reduceIte, reduceCtorEq]
    (repeat (refine And.intro (by first | assumption | omega | decide | (simp; done) | (simp; omega) | (have hq := hvv hgt; omega) | (simp_all; done)) ?_))
    refine hKq _ ?_; clear hKq Kq
    refine evR_p ?_
    refine evR_e hK ?_; clear hK K
    refine hK9 _ ?_
    refine tr_seq fun K10 hK10 => ?_
    refine tr_draw [44] [2, 8, 10, 11, 1000000, 1000001, 1000002, 1000003] mixed rfl (by kernel_rfl) rfl fun K hK => ?_
    iterate 7 refine evD_p ?_
    refine evD_step fun Kq hKq => ?_
    simp (maxSteps := 4000000) (disch := first | assumption | omega | (simp only [go_sem, *]; done) | (simp only [go_sem, *]; omega)) only [go_sem, hq, Int.reduceToNat, Nat.reduceBEq, Nat.reduceEqDiff, Nat.reduceAdd, Nat.reduceMul, Nat.reduceLeDiff, Nat.reduceLT, Nat.reduceSub, ↓reduceIte, reduceCtorEq]
    refine Or.inr ?_
    simp (maxSteps := 4000000) (disch := first | assumption | omega | (simp only [go_sem, *]; done) | (simp only [go_sem, *]; omega)) only [stpM, go_sem, hq, Int.reduceToNat, Nat.reduceBEq, Nat.reduceEqDiff, Nat.reduceAdd, Nat.reduceMul, Nat.reduceLeDiff, Nat.reduceLT, Nat.reduceSub, ↓reduceIte, reduceCtorEq]
    refine ⟨[0, 1, 2, 7], ?_⟩
    simp (maxSteps := 4000000) (disch := first | assumption | omega | (simp only [go_sem, *]; done) | (simp only [go_sem, *]; omega)) only [V.mapL, V.map, gJ, footJ, inJ, AObj.map, ndJ, ltJ, V.domL, V.dom, AObj.dom, kC, kR, AObj.isC, hJ, backJ, List.any_cons, List.any_nil, Nat.ble_eq, Nat.blt_eq, Nat.reduceLT, Nat.reduceLeDiff, Bool.or_true, Bool.true_or, Bool.or_false, Bool.false_or, Bool.and_self, go_sem, hq, Int.reduceToNat, Nat.reduceBEq, Nat.reduceEqDiff, Nat.reduceAdd, Nat.reduceMul, Nat.reduceLeDiff, Nat.reduceLT, Nat.reduceSub, ↓reduceIte, reduceCtorEq]
    refine ⟨_, _, _, (ih m hnm (setBit set d) _ hi2 (by subst hnm; rw [Nat.pow_succ] at ho; omega)), ?_⟩
    simp (maxSteps := 4000000) (disch := first | assumption | omega | (simp only [go_sem, *]; done) | (simp only [go_sem, *]; omega)) only [V.mapL, V.map, gJ, footJ, inJ, AObj.map, ndJ, ltJ, V.domL, V.dom, AObj.dom, kC, kR, AObj.isC, hJ, backJ, List.any_cons, List.any_nil, Nat.ble_eq, Nat.blt_eq, Nat.reduceLT, Nat.reduceLeDiff, Bool.or_true, Bool.true_or, Bool.or_false, Bool.false_or, Bool.and_self, go_sem, hq, Int.reduceToNat, Nat.reduceBEq, Nat.reduceEqDiff, Nat.reduceAdd, Nat.reduceMul, Nat.reduceLeDiff, Nat.reduceLT, Nat.reduceSub, ↓reduceIte, reduceCtorEq]
    (repeat (refine And.intro (by first | assumption | omega | decide | (simp; done) | (simp; omega) | (have hq := hvv hgt; omega) | (simp_all; done)) ?_))
    refine hKq _ ?_; clear hKq Kq
    refine evD_p ?_
    refine evD_e hK ?_; clear hK K
    refine hK10 _ ?_
    refine tr_seq fun K11 hK11 => ?_
    refine tr_draw [999999] [8, 1000000, 1000001, 1000002, 1000003] mixed rfl (by kernel_rfl) rfl fun K hK => ?_
    iterate 12 refine evD_p ?_
    refine evD_e hK ?_; clear hK K
    refine hK11 _ ?_
    refine tr_seq fun K12 hK12 => ?_
    refine tr_region [7, 1000000, 1000001, 1000002, 1000003] rfl rfl fun K hK => ?_
    iterate 2 refine evR_p ?_
    refine evR_e hK ?_; clear hK K
    refine hK12 _ ?_
    refine tr_ret ?_
    (try simp only [thenE, inBlkE])
    all_goals first | refine ⟨_, (Wk.trans (Wk.ren 6 4 (Nat.le_of_ble_eq_true rfl) (Nat.le_of_ble_eq_true rfl) rfl) (Wk.cut 5 rfl)), ?_⟩ | refine ⟨_, (Wk.trans (Wk.ren 8 4 (Nat.le_of_ble_eq_true rfl) (Nat.le_of_ble_eq_true rfl) rfl) (Wk.cut 5 rfl)), ?_⟩
    simp (maxSteps := 4000000) (disch := first | assumption | omega | (simp only [go_sem, *]; done) | (simp only [go_sem, *]; omega)) only [postM, ghOK, gv, St.ren, St.cut, V.ren, V.renL, AObj.ren, Nat.blt_eq, resV1, go_sem, hq, Int.reduceToNat, Nat.reduceBEq, Nat.reduceEqDiff, Nat.reduceAdd, Nat.reduceMul, Nat.reduceLeDiff, Nat.reduceLT, Nat.reduceSub, ↓reduceIte, reduceCtorEq]
    all_goals ((first | (rw [growN_leaf ht1]; done) | (subst hnm; rw [grow_fin (by omega) growN_at]; simp only [growN, if_neg hneg]; rfl)))
end

end Go.Proofs.YtaaongcfeldcoaaDoor


namespace Go.Proofs.YtaaongcfeldcoaaDoor
open Go.RowKit
set_option linter.unusedVariables false
set_option linter.unusedSimpArgs false
set_option maxRecDepth 100000
attribute [local go_sem] Nat.zero_add Nat.add_zero Nat.mul_one eq_self ne_eq not_true_eq_false not_false_eq_true decide_true decide_false decide_not Bool.false_eq_true List.filter_cons List.filter_nil true_and and_true beq_false beq_true Bool.not_true Bool.not_false Bool.and_true Bool.true_and Option.getD_some Option.getD_none imp_self implies_true Int.toNat_natCast List.cons_append List.nil_append List.map_cons List.map_nil List.length_cons List.length_nil List.getD_cons_zero List.getD_cons_succ List.drop_zero List.drop_succ_cons List.take_succ_cons List.take_zero
attribute [local go_sem] lowN lowQ lowM isAl appF isE isO stpO notIn St.bare evO evDO isEff stp St.get St.slot St.put List.lookup un unL ofVal gof nth pickV pkB_false pkB_true binV unV loadV idxV fldV partV buildV fillV lenV sliV appV appR rowsV winV V.parts V.okp V.sc Mem.look_cons Mem.look_nil V.cl V.clL AObj.clo fzAll exps St.fz Mem.fz V.fz V.fzL AObj.fz Option.isSome_some Option.isSome_none Bool.or_true Bool.true_or Bool.or_false Bool.false_or false_and and_false false_or or_false   arT_29 arT_57  arT_33   arT_112 arT_95  arT_88 boolT_29 boolT_3 boolT_36 boolT_4 boolT_92 flatT_29 flatT_3 flatT_36 flatT_4 flatT_92 intT_3 intT_121  lay_29 lay_73 lay_57 lay_59 lay_3 lay_42 lay_33 lay_35 lay_4  lay_88  lay_92 lay_110 lay_85   okF_14  okF_28    okF_18  okF_21  okF_22                okF_59 okF_60 okF_61  okF_62 okF_63     okF_51 okF_52 okF_53 okF_54  okF_55   okF_56 okF_57 okF_58 okF_32  okF_82 okF_83  okF_84 okF_85 okF_86 okF_87   okF_78 okF_79 okF_80 okF_81  okF_94  okF_40 okF_99 okF_69 okF_68   plT_73 plT_59 plT_35 plT_90 plT_92   slT_29 slT_57  slT_33   slT_112 slT_95  slT_88 stT_73_0   stT_73_3 stT_73_4 stT_73_5 stT_59_0 stT_59_1 stT_59_2 stT_35_0 stT_35_1 stT_35_2 stT_35_3 stT_90_0 stT_90_1 stT_90_2 stT_90_3    zeroT_73 zeroT_59 zeroT_3 zeroT_42 zeroT_33 zeroT_35   zeroT_90 zeroT_92
attribute [local go_sem] List.getElem?_cons_zero List.getElem?_cons_succ List.zip_cons_cons List.zip_nil_left List.zip_nil_right Bool.false_and Bool.and_false List.length_append List.length_set List.length_replicate List.all_cons List.all_nil encI_length encI_getD encR_length encR_getD encRw encPg spl shp AObj.shp rowM isSt isRpS isRd csh AObj.csh forall_const imp_self
attribute [local simp] encI_length encR_length
theorem c60 (rows : List Rw) (hr : rows.length ≤ maxLen) : ∀ (n d : Nat) (set : Int) (out : List Stp), (∀ r ∈ rows, r.coef.length = d + n) → d + n ≤ 12 → infN rows n d set → out.length + 2 ^ (n + 1) ≤ 100000 → CallsM Tryd.prog 84 [.int .i64 (d : Nat), .int .i64 set, .ptr 1 0, .ptr 0 0, .ptr 2 0] [(3, .row 90 4 (encS out)), (2, .cells [.fn 84 [.ptr 1 0, .ptr 0 0, .ptr 2 0]]), (1, .cells [.own 3]), (0, .cells [.sl 6 (encR rows)])] 4 (.int .i64 ((out).length : Nat)) [(4, .row 90 4 (encS (growN rows n d set out))), (2, .cells [.fn 84 [.ptr 1 0, .ptr 0 0, .ptr 2 0]]), (1, .cells [.own 4]), (0, .cells [.sl 6 (encR rows)])] 5
  | 0, d, set, out, hc, hd, hi, ho => c60s rows hr (fun r h => by have := hc r h; unfold maxLen; omega) 0 d set out hc hd hi ho fun m hm => by omega
  | n + 1, d, set, out, hc, hd, hi, ho => c60s rows hr (fun r h => by have := hc r h; unfold maxLen; omega) (n + 1) d set out hc hd hi ho fun m hm set out h1 h2 => by
    have : m = n := by omega
    subst this
    exact c60 rows hr m (d + 1) set out (fun r h => by have := hc r h; omega) (by omega) h1 h2
theorem c41 (rows : List Rw) (hr : rows.length ≤ maxLen) (n : Nat) (hn : n ≤ 12) (hc : ∀ r ∈ rows, r.coef.length = n) (hinf : infN rows n 0 0) : CallsA Tryd.prog 63 [.sl 6 (encR rows)] (.sl 4 (encS (growN rows n 0 0 []))) := by
  have hp : 2 ^ (n + 1) ≤ 2 ^ 13 := Nat.pow_le_pow_right (by omega) (by omega)
  have hq : True := trivial
  refine callsA_of_tr Tryd.func63 rfl (Nat.le_of_ble_eq_true rfl) ?_
  simp only [Tryd.results63, envOf, Nat.reduceAdd]
  refine tr_seq fun K1 hK1 => ?_
  refine tr_region [1] rfl rfl fun K hK => ?_
  iterate 2 refine evR_p ?_
  refine evR_e hK ?_; clear hK K
  refine hK1 _ ?_
  refine tr_seq fun K2 hK2 => ?_
  refine tr_region [1, 3] rfl rfl fun K hK => ?_
  refine evR_p ?_
  refine evR_e hK ?_; clear hK K
  refine hK2 _ ?_
  refine tr_seq fun K3 hK3 => ?_
  refine tr_region [1, 3, 4] rfl rfl fun K hK => ?_
  refine evR_p ?_
  refine evR_e hK ?_; clear hK K
  refine hK3 _ ?_
  refine tr_seq fun K4 hK4 => ?_
  refine tr_region [3, 4] rfl rfl fun K hK => ?_
  iterate 2 refine evR_p ?_
  refine evR_e hK ?_; clear hK K
  refine hK4 _ ?_
  refine tr_seq fun K5 hK5 => ?_
  refine tr_wk (Wk.nilown 90 4 1 0 rfl (by decide) rfl) ?_
  try simp only [List.map_cons, List.map_nil, Nat.reduceEqDiff, ↓reduceIte, List.set_cons_zero, List.set_cons_succ, Nat.reduceAdd]
  refine tr_region [3] rfl rfl fun K hK => ?_
  refine evR_p ?_
  refine evR_stepX fun Kq hKq => Or.inr ?_
  simp (maxSteps := 4000000) (disch := first | assumption | omega | (simp only [go_sem, *]; done) | (simp only [go_sem, *]; omega)) only [stpM, go_sem, hq, Int.reduceToNat, Nat.reduceBEq, Nat.reduceEqDiff, Nat.reduceAdd, Nat.reduceMul, Nat.reduceLeDiff, Nat.reduceLT, Nat.reduceSub, ↓reduceIte, reduceCtorEq]
  refine ⟨[0, 1, 2, 3], ?_⟩
  simp (maxSteps := 4000000) (disch := first | assumption | omega | (simp only [go_sem, *]; done) | (simp only [go_sem, *]; omega)) only [V.mapL, V.map, gJ, footJ, inJ, AObj.map, ndJ, ltJ, V.domL, V.dom, AObj.dom, kC, kR, AObj.isC, hJ, backJ, List.any_cons, List.any_nil, Nat.ble_eq, Nat.blt_eq, Nat.reduceLT, Nat.reduceLeDiff, Bool.or_true, Bool.true_or, Bool.or_false, Bool.false_or, Bool.and_self, go_sem, hq, Int.reduceToNat, Nat.reduceBEq, Nat.reduceEqDiff, Nat.reduceAdd, Nat.reduceMul, Nat.reduceLeDiff, Nat.reduceLT, Nat.reduceSub, ↓reduceIte, reduceCtorEq]
  refine ⟨_, _, _, (c60 rows hr n 0 0 [] (fun r h => by rw [hc r h]; omega) (by omega) hinf (by simp only [List.length_nil]; omega)), ?_⟩
  simp (maxSteps := 4000000) (disch := first | assumption | omega | (simp only [go_sem, *]; done) | (simp only [go_sem, *]; omega)) only [V.mapL, V.map, gJ, footJ, inJ, AObj.map, ndJ, ltJ, V.domL, V.dom, AObj.dom, kC, kR, AObj.isC, hJ, backJ, List.any_cons, List.any_nil, Nat.ble_eq, Nat.blt_eq, Nat.reduceLT, Nat.reduceLeDiff, Bool.or_true, Bool.true_or, Bool.or_false, Bool.false_or, Bool.and_self, go_sem, hq, Int.reduceToNat, Nat.reduceBEq, Nat.reduceEqDiff, Nat.reduceAdd, Nat.reduceMul, Nat.reduceLeDiff, Nat.reduceLT, Nat.reduceSub, ↓reduceIte, reduceCtorEq]
  (repeat (refine And.intro (by first | assumption | omega | decide | (simp; done) | (simp; omega) | (have hq := hvv hgt; omega) | (simp_all; done)) ?_))
  refine hKq _ ?_; clear hKq Kq
  refine evR_e hK ?_; clear hK K
  refine hK5 _ ?_
  refine tr_seq fun K6 hK6 => ?_
  refine tr_region [2] rfl rfl fun K hK => ?_
  iterate 2 refine evR_p ?_
  refine evR_e hK ?_; clear hK K
  refine hK6 _ ?_
  refine tr_ret ?_
  (try simp only [thenE, inBlkE])
  simp (maxSteps := 4000000) (disch := first | assumption | omega | (simp only [go_sem, *]; done) | (simp only [go_sem, *]; omega)) only [postA, postO, resV1, fzAll, go_sem, hq, Int.reduceToNat, Nat.reduceBEq, Nat.reduceEqDiff, Nat.reduceAdd, Nat.reduceMul, Nat.reduceLeDiff, Nat.reduceLT, Nat.reduceSub, ↓reduceIte, reduceCtorEq]
  all_goals (skip)

end Go.Proofs.YtaaongcfeldcoaaDoor


namespace Go.Proofs.YtaaongcfeldcoaaDoor
open Go.RowKit
set_option linter.unusedVariables false
set_option linter.unusedSimpArgs false
set_option maxRecDepth 100000
attribute [local go_sem] Nat.zero_add Nat.add_zero Nat.mul_one eq_self ne_eq not_true_eq_false not_false_eq_true decide_true decide_false decide_not Bool.false_eq_true List.filter_cons List.filter_nil true_and and_true beq_false beq_true Bool.not_true Bool.not_false Bool.and_true Bool.true_and Option.getD_some Option.getD_none imp_self implies_true Int.toNat_natCast List.cons_append List.nil_append List.map_cons List.map_nil List.length_cons List.length_nil List.getD_cons_zero List.getD_cons_succ List.drop_zero List.drop_succ_cons List.take_succ_cons List.take_zero
attribute [local go_sem] lowN lowQ lowM isAl appF isE isO stpO notIn St.bare evO evDO isEff stp St.get St.slot St.put List.lookup un unL ofVal gof nth pickV pkB_false pkB_true binV unV loadV idxV fldV partV buildV fillV lenV sliV appV appR rowsV winV V.parts V.okp V.sc Mem.look_cons Mem.look_nil V.cl V.clL AObj.clo fzAll exps St.fz Mem.fz V.fz V.fzL AObj.fz Option.isSome_some Option.isSome_none Bool.or_true Bool.true_or Bool.or_false Bool.false_or false_and and_false false_or or_false   arT_29 arT_57  arT_33   arT_112 arT_95  arT_88 boolT_29 boolT_3 boolT_36 boolT_4 boolT_92 flatT_29 flatT_3 flatT_36 flatT_4 flatT_92 intT_3 intT_121  lay_29 lay_73 lay_57 lay_59 lay_3 lay_42 lay_33 lay_35 lay_4  lay_88  lay_92 lay_110 lay_85   okF_14  okF_28    okF_18  okF_21  okF_22                okF_59 okF_60 okF_61  okF_62 okF_63     okF_51 okF_52 okF_53 okF_54  okF_55   okF_56 okF_57 okF_58 okF_32  okF_82 okF_83  okF_84 okF_85 okF_86 okF_87   okF_78 okF_79 okF_80 okF_81  okF_94  okF_40 okF_99 okF_69 okF_68   plT_73 plT_59 plT_35 plT_90 plT_92   slT_29 slT_57  slT_33   slT_112 slT_95  slT_88 stT_73_0   stT_73_3 stT_73_4 stT_73_5 stT_59_0 stT_59_1 stT_59_2 stT_35_0 stT_35_1 stT_35_2 stT_35_3 stT_90_0 stT_90_1 stT_90_2 stT_90_3    zeroT_73 zeroT_59 zeroT_3 zeroT_42 zeroT_33 zeroT_35   zeroT_90 zeroT_92
attribute [local go_sem] List.getElem?_cons_zero List.getElem?_cons_succ List.zip_cons_cons List.zip_nil_left List.zip_nil_right Bool.false_and Bool.and_false List.length_append List.length_set List.length_replicate List.all_cons List.all_nil encI_length encI_getD encR_length encR_getD encRw encPg spl shp AObj.shp rowM isSt isRpS isRd csh AObj.csh forall_const imp_self
attribute [local simp] encI_length encR_length
theorem c38 (p : Pg) : CallsA Tryd.prog 60 [.agg (encPg p)] (.fn 82 [.ep (encPg p)]) := by
  have hq : True := trivial
  refine callsA_of_tr Tryd.func60 rfl (Nat.le_of_ble_eq_true rfl) ?_
  simp only [Tryd.results60, envOf, Nat.reduceAdd]
  refine tr_seq fun K1 hK1 => ?_
  refine tr_region [1] rfl rfl fun K hK => ?_
  iterate 2 refine evR_p ?_
  refine evR_e hK ?_; clear hK K
  refine hK1 _ ?_
  refine tr_seq fun K2 hK2 => ?_
  refine tr_fz [.ptr 0 0] (by simp (maxSteps := 4000000) (disch := first | assumption | omega | (simp only [go_sem, *]; done) | (simp only [go_sem, *]; omega)) only [go_sem, hq, Int.reduceToNat, Nat.reduceBEq, Nat.reduceEqDiff, Nat.reduceAdd, Nat.reduceMul, Nat.reduceLeDiff, Nat.reduceLT, Nat.reduceSub, ↓reduceIte, reduceCtorEq]; (try rfl)) ?_
  refine tr_region [2] rfl rfl fun K hK => ?_
  iterate 2 refine evR_p ?_
  refine evR_e hK ?_; clear hK K
  refine hK2 _ ?_
  refine tr_ret ?_
  (try simp only [thenE, inBlkE])
  simp (maxSteps := 4000000) (disch := first | assumption | omega | (simp only [go_sem, *]; done) | (simp only [go_sem, *]; omega)) only [postA, postO, resV1, fzAll, go_sem, hq, Int.reduceToNat, Nat.reduceBEq, Nat.reduceEqDiff, Nat.reduceAdd, Nat.reduceMul, Nat.reduceLeDiff, Nat.reduceLT, Nat.reduceSub, ↓reduceIte, reduceCtorEq]
  all_goals (rfl)

theorem c59 (r : Rw) (hm : r.coef.length ≤ maxLen) (set : Int) : CallsA Tryd.prog 83 [.agg (encRw r), .ep [.int .i64 set]] (.bool (keptB r set)) := by
  have hq : True := trivial
  refine callsA_of_tr Tryd.func83 rfl (Nat.le_of_ble_eq_true rfl) ?_
  simp only [Tryd.results83, envOf, Nat.reduceAdd]
  refine tr_seq fun K1 hK1 => ?_
  refine tr_region [1, 2] rfl rfl fun K hK => ?_
  iterate 2 refine evR_p ?_
  refine evR_e hK ?_; clear hK K
  refine hK1 _ ?_
  refine tr_seq fun K2 hK2 => ?_
  refine tr_region [3] rfl rfl fun K hK => ?_
  iterate 2 refine evR_p ?_
  refine evR_c (hc := (c55 r hm set)) (k := ?_)
  refine evR_p ?_
  refine evR_e hK ?_; clear hK K
  refine hK2 _ ?_
  refine tr_ret ?_
  (try simp only [thenE, inBlkE])
  simp (maxSteps := 4000000) (disch := first | assumption | omega | (simp only [go_sem, *]; done) | (simp only [go_sem, *]; omega)) only [postA, postO, resV1, fzAll, go_sem, hq, Int.reduceToNat, Nat.reduceBEq, Nat.reduceEqDiff, Nat.reduceAdd, Nat.reduceMul, Nat.reduceLeDiff, Nat.reduceLT, Nat.reduceSub, ↓reduceIte, reduceCtorEq]
  all_goals (skip)

section
attribute [local go_sem] fzL_mapI
theorem c58 (p : Pg) (hr : p.rows.length ≤ maxLen) (hg : p.gain.length ≤ maxLen) (hc : ∀ r ∈ p.rows, r.coef.length ≤ maxLen) (hv : validB p = true) : SeqA Tryd.prog (Value.int .i64) 82 [.ep (encPg p)] (fun xs => xs = choiceL p) 4096 := by
  obtain ⟨v, hv1, hv2, hv3, hv4⟩ := vars_pow hv
  have hq := And.intro hv1 (hv3)
  refine seqA_of_tr Tryd.func82 rfl (by rw [Tryd.results82]) enok_int (Nat.le_of_ble_eq_true rfl) (Nat.le_of_ble_eq_true rfl) fun l ys C hys hCY => ?_
  obtain ⟨y0, rfl⟩ : ∃ y0, ys = [y0] := by match ys, hys with | [y0], _ => exact ⟨y0, rfl⟩
  simp only [List.zipWith_cons_cons, List.zipWith_nil_left, List.zip_cons_cons, List.zip_nil_left, envOf, List.cons_append, List.nil_append, Nat.reduceAdd] at hCY ⊢
  refine tr_seq fun K1 hK1 => ?_
  refine tr_region [0, 1, 6, 7, 1000000, 1000001] rfl rfl fun K hK => ?_
  iterate 4 refine evR_p ?_
  refine evR_e hK ?_; clear hK K
  refine hK1 _ ?_
  refine tr_block ?_
  -- loop 1: live [0, 1, 6, 7]
  refine tr_loopW (fun m σ => ∃ i : Nat, i + m = 2 ^ v ∧ σ = ⟨[(0, .yl l), (1, .eq y0 (.ep [.int .i64 (v : Nat), .sl 6 (encR p.rows), .sl 1 (encI p.gain)])), (6, .int .i64 ((2 ^ v : Nat) : Int)), (7, .int .i64 (i : Nat)), (1000000, .tup ((chL p.rows i).map (V.int .i64))), (1000001, .bool false)], [], 0⟩) (2 ^ v) ?_ ?_
  · exact ⟨_, Wk.refl _, 0, by omega, rfl⟩
  · rintro m σ ⟨i, hi, rfl⟩ KL1 hKL1
    refine tr_seq fun K2 hK2 => ?_
    refine tr_region [0, 1, 6, 7, 8, 1000000, 1000001] rfl rfl fun K hK => ?_
    refine evR_p ?_
    refine evR_e hK ?_; clear hK K
    refine hK2 _ ?_
    refine tr_seq fun K3 hK3 => ?_
    refine tr_condB (fun ht1 => ?_) (fun ht1 => ?_)
    · skip
      (first | (exfalso; simp_all; done) | skip)
      all_goals
        have hil : i < 2 ^ v := by omega
        have hcl := chL_length p.rows i
        replace hq := And.intro hq (hil)
        refine tr_skip ?_
        (try simp only [thenE, inBlkE])
        refine hK3 _ ?_
        refine tr_seq fun K4 hK4 => ?_
        refine tr_block ?_
        refine tr_seq fun K5 hK5 => ?_
        refine tr_region [0, 1, 3, 6, 7, 1000000, 1000001] rfl rfl fun K hK => ?_
        iterate 3 refine evR_p ?_
        refine evR_e hK ?_; clear hK K
        refine hK5 _ ?_
        refine tr_seq fun K6 hK6 => ?_
        refine tr_region [0, 1, 6, 7, 19, 1000000, 1000001] rfl rfl fun K hK => ?_
        iterate 3 refine evR_p ?_
        refine evR_c (hc := (c46 p.rows 83 [.ep [.int .i64 (i : Nat)]] (fun r => keptB r (i : Nat)) okF_83 rfl (fun r h => c59 r (hc r h) (i : Nat)) hr)) (k := ?_)
        refine evR_p ?_
        iterate 2 refine evR_g ?_
        refine evR_stepY rfl rfl fun Kq hKq => ⟨fun hyt => hCY _ _ _ ?_, fun hyt => ⟨.bool false, hKq _ ?_⟩⟩
        (try simp only [decide_eq_true_eq, decide_eq_false_iff_not, Bool.not_eq_true', Bool.not_eq_false', Bool.and_eq_true, Bool.or_eq_true, Bool.and_eq_false_iff, Bool.or_eq_false_iff, beq_true, beq_false] at hyt)
        simp (maxSteps := 4000000) (disch := first | assumption | omega | (simp only [go_sem, *]; done) | (simp only [go_sem, *]; omega)) only [YI, go_sem, hq, Int.reduceToNat, Nat.reduceBEq, Nat.reduceEqDiff, Nat.reduceAdd, Nat.reduceMul, Nat.reduceLeDiff, Nat.reduceLT, Nat.reduceSub, ↓reduceIte, reduceCtorEq]
        (repeat (refine And.intro (by first | assumption | omega | decide | (simp; done) | (simp; omega) | (have hq := hvv hgt; omega) | (simp_all; done)) ?_))
        refine ⟨((i : Nat) : Int), chL p.rows i, [1], ?_⟩
        (repeat (refine And.intro (by first | rfl | exact (show (chL p.rows i).length < 4096 by omega) | (intro t ht; rw [List.mem_singleton] at ht; subst ht; exact ⟨_, List.mem_singleton.2 rfl, rfl⟩) | (rfl)) ?_))
        refine ⟨hKq _ ?_, hKq _ ?_⟩
        all_goals try simp only [goY, stY, keepE, simE, V.simpl, V.simp, List.cons_append, List.nil_append, St.put, St.slot, List.lookup, Option.getD_some, Nat.reduceBEq]
        all_goals (try clear hKq Kq)
        all_goals (try simp only [decide_eq_true_eq, decide_eq_false_iff_not, Bool.not_eq_true', Bool.not_eq_false', Bool.and_eq_true, Bool.or_eq_true, Bool.and_eq_false_iff, Bool.or_eq_false_iff, beq_true, beq_false] at hyt)
        all_goals
          refine evR_g ?_
          refine evR_p ?_
          refine evR_e hK ?_; clear hK K
          refine hK6 _ ?_
          refine tr_condB (fun ht2 => ?_) (fun ht2 => ?_)
          · skip
            (first | (exfalso; simp_all; done) | skip)
            all_goals
              refine tr_ret ?_
              (try simp only [thenE, inBlkE])
              simp (maxSteps := 4000000) (disch := first | assumption | omega | (simp only [go_sem, *]; done) | (simp only [go_sem, *]; omega)) only [postI, go_sem, hq, Int.reduceToNat, Nat.reduceBEq, Nat.reduceEqDiff, Nat.reduceAdd, Nat.reduceMul, Nat.reduceLeDiff, Nat.reduceLT, Nat.reduceSub, ↓reduceIte, reduceCtorEq]
              all_goals (first | exact Or.inl trivial | exact Or.inl rfl | exact Or.inr ⟨_, by unfold choiceL; rw [hv1]; rfl, rfl⟩)
          · skip
            (first | (exfalso; simp_all; done) | skip)
            all_goals
              refine tr_skip ?_
              (try simp only [thenE, inBlkE])
              refine hK4 _ ?_
              refine tr_region [0, 1, 6, 7, 1000000, 1000001] rfl rfl fun K hK => ?_
              iterate 2 refine evR_p ?_
              refine evR_e hK ?_; clear hK K
              refine hKL1 _ ?_
              first
                | exact ⟨m - 1, _, by omega, Wk.cut 0 (by simp only [St.cutOK, List.all_cons, List.all_nil, V.upto, uptoL_mapI, Bool.and_self, List.filter_nil]), i + 1, by omega, by rw [w64 (x := (i : Int) + 1) (by omega), chL_t hyt]; rfl⟩
                | exact ⟨m - 1, _, by omega, Wk.cut 0 (by simp only [St.cutOK, List.all_cons, List.all_nil, V.upto, uptoL_mapI, Bool.and_self, List.filter_nil]), i + 1, by omega, by rw [w64 (x := (i : Int) + 1) (by omega), chL_f hyt]; rfl⟩
    · skip
      (first | (exfalso; simp_all; done) | skip)
      all_goals
        have hil : i = 2 ^ v := by omega
        subst hil
        refine tr_exit ?_
        simp only [thenE, inBlkE, Nat.reduceEqDiff, ↓reduceIte]
        simp (maxSteps := 4000000) (disch := first | assumption | omega | (simp only [go_sem, *]; done) | (simp only [go_sem, *]; omega)) only [postI, go_sem, hq, Int.reduceToNat, Nat.reduceBEq, Nat.reduceEqDiff, Nat.reduceAdd, Nat.reduceMul, Nat.reduceLeDiff, Nat.reduceLT, Nat.reduceSub, ↓reduceIte, reduceCtorEq]
        all_goals (first | exact Or.inl trivial | exact Or.inl rfl | exact Or.inr ⟨_, by unfold choiceL; rw [hv1]; rfl, rfl⟩)
end

end Go.Proofs.YtaaongcfeldcoaaDoor


namespace Go.Proofs.YtaaongcfeldcoaaDoor
open Go.RowKit
set_option linter.unusedVariables false
set_option linter.unusedSimpArgs false
set_option maxRecDepth 100000
attribute [local go_sem] Nat.zero_add Nat.add_zero Nat.mul_one eq_self ne_eq not_true_eq_false not_false_eq_true decide_true decide_false decide_not Bool.false_eq_true List.filter_cons List.filter_nil true_and and_true beq_false beq_true Bool.not_true Bool.not_false Bool.and_true Bool.true_and Option.getD_some Option.getD_none imp_self implies_true Int.toNat_natCast List.cons_append List.nil_append List.map_cons List.map_nil List.length_cons List.length_nil List.getD_cons_zero List.getD_cons_succ List.drop_zero List.drop_succ_cons List.take_succ_cons List.take_zero
attribute [local go_sem] lowN lowQ lowM isAl appF isE isO stpO notIn St.bare evO evDO isEff stp St.get St.slot St.put List.lookup un unL ofVal gof nth pickV pkB_false pkB_true binV unV loadV idxV fldV partV buildV fillV lenV sliV appV appR rowsV winV V.parts V.okp V.sc Mem.look_cons Mem.look_nil V.cl V.clL AObj.clo fzAll exps St.fz Mem.fz V.fz V.fzL AObj.fz Option.isSome_some Option.isSome_none Bool.or_true Bool.true_or Bool.or_false Bool.false_or false_and and_false false_or or_false   arT_29 arT_57  arT_33   arT_112 arT_95  arT_88 boolT_29 boolT_3 boolT_36 boolT_4 boolT_92 flatT_29 flatT_3 flatT_36 flatT_4 flatT_92 intT_3 intT_121  lay_29 lay_73 lay_57 lay_59 lay_3 lay_42 lay_33 lay_35 lay_4  lay_88  lay_92 lay_110 lay_85   okF_14  okF_28    okF_18  okF_21  okF_22                okF_59 okF_60 okF_61  okF_62 okF_63     okF_51 okF_52 okF_53 okF_54  okF_55   okF_56 okF_57 okF_58 okF_32  okF_82 okF_83  okF_84 okF_85 okF_86 okF_87   okF_78 okF_79 okF_80 okF_81  okF_94  okF_40 okF_99 okF_69 okF_68   plT_73 plT_59 plT_35 plT_90 plT_92   slT_29 slT_57  slT_33   slT_112 slT_95  slT_88 stT_73_0   stT_73_3 stT_73_4 stT_73_5 stT_59_0 stT_59_1 stT_59_2 stT_35_0 stT_35_1 stT_35_2 stT_35_3 stT_90_0 stT_90_1 stT_90_2 stT_90_3    zeroT_73 zeroT_59 zeroT_3 zeroT_42 zeroT_33 zeroT_35   zeroT_90 zeroT_92
attribute [local go_sem] List.getElem?_cons_zero List.getElem?_cons_succ List.zip_cons_cons List.zip_nil_left List.zip_nil_right Bool.false_and Bool.and_false List.length_append List.length_set List.length_replicate List.all_cons List.all_nil encI_length encI_getD encR_length encR_getD encRw encPg spl shp AObj.shp rowM isSt isRpS isRd csh AObj.csh forall_const imp_self
attribute [local simp] encI_length encR_length
section
attribute [local go_sem] encR_takeA encR_one
set_option maxHeartbeats 2000000 in
theorem c14 (p : Pg) (hr : p.rows.length ≤ maxLen) (hg : p.gain.length ≤ maxLen) (hc : ∀ r ∈ p.rows, r.coef.length ≤ maxLen) (hv : validB p = true) : CallsA Tryd.prog 28 [.agg (encPg p)] (.tup [.agg (encSol (solveW p)), .int .i64 0]) := by
  obtain ⟨q0, q1, q2, q3, q4, q5⟩ := validB_all hv
  have hq := hv
  refine callsA_of_tr Tryd.func28 rfl (Nat.le_of_ble_eq_true rfl) ?_
  simp only [Tryd.results28, envOf, Nat.reduceAdd]
  refine tr_seq fun K1 hK1 => ?_
  refine tr_region [1, 2] rfl rfl fun K hK => ?_
  iterate 3 refine evR_p ?_
  refine evR_e hK ?_; clear hK K
  refine hK1 _ ?_
  refine tr_seq fun K2 hK2 => ?_
  refine tr_seq fun K3 hK3 => ?_
  refine tr_region [1, 2, 10] rfl rfl fun K hK => ?_
  refine evR_p ?_
  refine evR_c (hc := (c20 p hr hg hc)) (k := ?_)
  refine evR_p ?_
  refine evR_e hK ?_; clear hK K
  refine hK3 _ ?_
  refine tr_condB (fun ht1 => ?_) (fun ht1 => ?_)
  · skip
    (first | (exfalso; simp_all; done) | skip)
    all_goals
      refine tr_seq fun K4 hK4 => ?_
      refine tr_region [2, 3] rfl rfl fun K hK => ?_
      iterate 3 refine evR_p ?_
      refine evR_e hK ?_; clear hK K
      refine hK4 _ ?_
      refine tr_ret ?_
      (try simp only [thenE, inBlkE])
      simp (maxSteps := 4000000) (disch := first | assumption | omega | (simp only [go_sem, *]; done) | (simp only [go_sem, *]; omega)) only [postA, postO, resV1, fzAll, go_sem, hq, Int.reduceToNat, Nat.reduceBEq, Nat.reduceEqDiff, Nat.reduceAdd, Nat.reduceMul, Nat.reduceLeDiff, Nat.reduceLT, Nat.reduceSub, ↓reduceIte, reduceCtorEq]
      all_goals (simp only [encSol, solveW]; first | (rw [solRows_t (by assumption)]; done) | (rw [solRows_f (by assumption)]; done) | (rw [solRows_t (by assumption)]; rfl) | (rw [solRows_f (by assumption)]; rfl))
  · skip
    (first | (exfalso; simp_all; done) | skip)
    all_goals
      refine tr_skip ?_
      (try simp only [thenE, inBlkE])
      refine hK2 _ ?_
      refine tr_seq fun K5 hK5 => ?_
      refine tr_region [1, 2, 4] rfl rfl fun K hK => ?_
      refine evR_p ?_
      refine evR_e hK ?_; clear hK K
      refine hK5 _ ?_
      refine tr_seq fun K6 hK6 => ?_
      refine tr_seq fun K7 hK7 => ?_
      refine tr_region [1, 2, 4, 13] rfl rfl fun K hK => ?_
      refine evR_p ?_
      refine evR_c (hc := (c38 p)) (k := ?_)
      refine evR_e hK ?_; clear hK K
      refine hK7 _ ?_
      refine tr_block ?_
      -- loop over a function 1: live [1, 2, 4]
      refine tr_rangeFunc (en := V.int .i64) (c58 p hr hg hc hv) enok_int.rel rfl rfl okF_82 rfl (fun pre σ => σ = ⟨[(1, .ptr 0 0), (2, .ptr 1 0), (4, .ptr 2 0)], [(2, .cells [.bool (bestW p.gain pre).1, .int .i64 (bestW p.gain pre).2.1, .int .i64 (bestW p.gain pre).2.2, .nsl]), (1, .cells [.bool false, .int .i64 0, .int .i64 0, .nsl]), (0, .cells (encPg p))], 3⟩) [1, 2, 4] ?_ ?_ ?_
      · rfl
      · rintro pre x σ rfl hpre KL1 hKL1 KA1 hKA1
        simp only [St.rd, List.filter_cons, List.filter_nil, List.map_cons, List.map_nil, Nat.blt_eq, Nat.reduceLT, ↓reduceIte, List.cons_append, List.nil_append, Nat.reduceAdd]
        refine tr_region [1, 4, 5, 2000001, 2000002, 2000004] rfl rfl fun K hK => ?_
        refine evR_p ?_
        refine evR_e hK ?_; clear hK K
        refine hKA1 _ ?_
        refine tr_block ?_
        refine tr_seq fun K8 hK8 => ?_
        refine tr_region [4, 5, 6, 2000001, 2000002, 2000004] rfl rfl fun K hK => ?_
        iterate 3 refine evR_p ?_
        refine evR_c (hc := (c39 _ _ hg)) (k := ?_)
        refine evR_p ?_
        refine evR_e hK ?_; clear hK K
        refine hK8 _ ?_
        refine tr_seq fun K9 hK9 => ?_
        refine tr_region [4, 5, 6, 27, 2000001, 2000002, 2000004] rfl rfl fun K hK => ?_
        iterate 4 refine evR_p ?_
        iterate 4 refine evR_g ?_
        refine evR_p ?_
        refine evR_e hK ?_; clear hK K
        refine hK9 _ ?_
        refine tr_condB (fun ht2 => ?_) (fun ht2 => ?_)
        · skip
          (first | (exfalso; simp_all; done) | skip)
          all_goals
            refine tr_region [2000001, 2000002, 2000004] rfl rfl fun K hK => ?_
            iterate 4 refine evR_p ?_
            refine evR_e hK ?_; clear hK K
            refine hKL1 _ ?_
            simp only [St.bk, List.filterMap_cons, List.filterMap_nil, Nat.ble_eq, Nat.reduceLeDiff, ↓reduceIte, Nat.reduceSub]
            first
              | exact ⟨_, Wk.refl _, by rw [bestW_snoc, bestS_t (by first | (rcases ht2 with h | h <;> simp [h]; done) | (simp_all; done))]; rfl⟩
              | exact ⟨_, Wk.refl _, by rw [bestW_snoc, bestS_f (by first | (simp only [ht2, Bool.not_true, Bool.false_or]; done) | (simp_all; done))]; rfl⟩
        · skip
          (first | (exfalso; simp_all; done) | skip)
          all_goals
            refine tr_skip ?_
            (try simp only [thenE, inBlkE])
            refine hKL1 _ ?_
            simp only [St.bk, List.filterMap_cons, List.filterMap_nil, Nat.ble_eq, Nat.reduceLeDiff, ↓reduceIte, Nat.reduceSub]
            first
              | exact ⟨_, Wk.refl _, by rw [bestW_snoc, bestS_t (by first | (rcases ht2 with h | h <;> simp [h]; done) | (simp_all; done))]; rfl⟩
              | exact ⟨_, Wk.refl _, by rw [bestW_snoc, bestS_f (by first | (simp only [ht2, Bool.not_true, Bool.false_or]; done) | (simp_all; done))]; rfl⟩
      · rintro pre σ hS rfl
        subst hS
        have eb : bestW p.gain (choiceL p) = solveB p := rfl
        rw [eb]
        obtain ⟨vn, hvn⟩ := Int.eq_ofNat_of_zero_le q0
        refine hK6 _ ?_
        refine tr_seq fun K10 hK10 => ?_
        refine tr_region [1, 2, 4, 7] rfl rfl fun K hK => ?_
        iterate 3 refine evR_p ?_
        refine evR_e hK ?_; clear hK K
        refine hK10 _ ?_
        refine tr_seq fun K11 hK11 => ?_
        refine tr_seq fun K12 hK12 => ?_
        refine tr_region [1, 2, 4, 7, 34] rfl rfl fun K hK => ?_
        iterate 2 refine evR_p ?_
        refine evR_e hK ?_; clear hK K
        refine hK12 _ ?_
        refine tr_condB (fun ht3 => ?_) (fun ht3 => ?_)
        · skip
          (first | (exfalso; simp_all; done) | skip)
          all_goals
            refine tr_draw [45] [2, 4, 7] mixed rfl (by kernel_rfl) rfl fun K hK => ?_
            iterate 9 refine evD_p ?_
            refine evD_c (hc := (c40 p (by omega) _)) (k := ?_)
            refine evD_bs ?_
            iterate 2 refine evD_p ?_
            refine evD_e hK ?_; clear hK K
            refine hK11 _ ?_
            refine tr_seq fun K13 hK13 => ?_
            refine tr_region [2, 4] rfl rfl fun K hK => ?_
            refine evR_p ?_
            refine evR_c (hc := (solRows_t (p := p) (b := solveB p) (by assumption) ▸ (c41 (solRows p (solveB p)) (by rw [solRows_t (by assumption)]; simp only [List.length_append, List.length_cons, List.length_nil, maxLen]; omega) p.vars.toNat (by omega) (solRows_coef hv _) (solve_inf hv)))) (k := ?_)
            iterate 2 refine evR_p ?_
            refine evR_e hK ?_; clear hK K
            refine hK13 _ ?_
            refine tr_seq fun K14 hK14 => ?_
            refine tr_region [2, 3] rfl rfl fun K hK => ?_
            iterate 3 refine evR_p ?_
            refine evR_e hK ?_; clear hK K
            refine hK14 _ ?_
            refine tr_ret ?_
            (try simp only [thenE, inBlkE])
            simp (maxSteps := 4000000) (disch := first | assumption | omega | (simp only [go_sem, *]; done) | (simp only [go_sem, *]; omega)) only [postA, postO, resV1, fzAll, go_sem, hq, Int.reduceToNat, Nat.reduceBEq, Nat.reduceEqDiff, Nat.reduceAdd, Nat.reduceMul, Nat.reduceLeDiff, Nat.reduceLT, Nat.reduceSub, ↓reduceIte, reduceCtorEq]
            all_goals (simp only [encSol, solveW]; first | (rw [solRows_t (by assumption)]; done) | (rw [solRows_f (by assumption)]; done) | (rw [solRows_t (by assumption)]; rfl) | (rw [solRows_f (by assumption)]; rfl))
        · skip
          (first | (exfalso; simp_all; done) | skip)
          all_goals
            refine tr_skip ?_
            (try simp only [thenE, inBlkE])
            refine hK11 _ ?_
            refine tr_seq fun K15 hK15 => ?_
            refine tr_region [2, 4] rfl rfl fun K hK => ?_
            refine evR_p ?_
            refine evR_c (hc := (solRows_f (p := p) (b := solveB p) (by assumption) ▸ (c41 (solRows p (solveB p)) (by rw [solRows_f (by assumption)]; exact hr) p.vars.toNat (by omega) (solRows_coef hv _) (solve_inf hv)))) (k := ?_)
            iterate 2 refine evR_p ?_
            refine evR_e hK ?_; clear hK K
            refine hK15 _ ?_
            refine tr_seq fun K16 hK16 => ?_
            refine tr_region [2, 3] rfl rfl fun K hK => ?_
            iterate 3 refine evR_p ?_
            refine evR_e hK ?_; clear hK K
            refine hK16 _ ?_
            refine tr_ret ?_
            (try simp only [thenE, inBlkE])
            simp (maxSteps := 4000000) (disch := first | assumption | omega | (simp only [go_sem, *]; done) | (simp only [go_sem, *]; omega)) only [postA, postO, resV1, fzAll, go_sem, hq, Int.reduceToNat, Nat.reduceBEq, Nat.reduceEqDiff, Nat.reduceAdd, Nat.reduceMul, Nat.reduceLeDiff, Nat.reduceLT, Nat.reduceSub, ↓reduceIte, reduceCtorEq]
            all_goals (simp only [encSol, solveW]; first | (rw [solRows_t (by assumption)]; done) | (rw [solRows_f (by assumption)]; done) | (rw [solRows_t (by assumption)]; rfl) | (rw [solRows_f (by assumption)]; rfl))
end

section
attribute [local go_sem] encR_takeA encR_one
set_option maxHeartbeats 2000000 in
theorem c14n (p : Pg) (hr : p.rows.length ≤ maxLen) (hg : p.gain.length ≤ maxLen) (hc : ∀ r ∈ p.rows, r.coef.length ≤ maxLen) (hv : validB p = false) : CallsA Tryd.prog 28 [.agg (encPg p)] (.tup [.agg [.bool false, .int .i64 0, .int .i64 0, .nsl], .int .i64 230]) := by
  have hq := hv
  refine callsA_of_tr Tryd.func28 rfl (Nat.le_of_ble_eq_true rfl) ?_
  simp only [Tryd.results28, envOf, Nat.reduceAdd]
  refine tr_seq fun K1 hK1 => ?_
  refine tr_region [1, 2] rfl rfl fun K hK => ?_
  iterate 3 refine evR_p ?_
  refine evR_e hK ?_; clear hK K
  refine hK1 _ ?_
  refine tr_seq fun K2 hK2 => ?_
  refine tr_seq fun K3 hK3 => ?_
  refine tr_region [1, 2, 10] rfl rfl fun K hK => ?_
  refine evR_p ?_
  refine evR_c (hc := (c20 p hr hg hc)) (k := ?_)
  refine evR_p ?_
  refine evR_e hK ?_; clear hK K
  refine hK3 _ ?_
  refine tr_condB (fun ht1 => ?_) (fun ht1 => ?_)
  · skip
    (first | (exfalso; simp_all; done) | skip)
    all_goals
      refine tr_seq fun K4 hK4 => ?_
      refine tr_region [2, 3] rfl rfl fun K hK => ?_
      iterate 3 refine evR_p ?_
      refine evR_e hK ?_; clear hK K
      refine hK4 _ ?_
      refine tr_ret ?_
      (try simp only [thenE, inBlkE])
      simp (maxSteps := 4000000) (disch := first | assumption | omega | (simp only [go_sem, *]; done) | (simp only [go_sem, *]; omega)) only [postA, postO, resV1, fzAll, go_sem, hq, Int.reduceToNat, Nat.reduceBEq, Nat.reduceEqDiff, Nat.reduceAdd, Nat.reduceMul, Nat.reduceLeDiff, Nat.reduceLT, Nat.reduceSub, ↓reduceIte, reduceCtorEq]
      all_goals (rfl)
  · skip
    (first | (exfalso; simp_all; done) | skip)
    all_goals
      refine tr_skip ?_
      (try simp only [thenE, inBlkE])
      refine hK2 _ ?_
      refine tr_seq fun K5 hK5 => ?_
      refine tr_region [1, 2, 4] rfl rfl fun K hK => ?_
      refine evR_p ?_
      refine evR_e hK ?_; clear hK K
      refine hK5 _ ?_
      refine tr_seq fun K6 hK6 => ?_
      refine tr_seq fun K7 hK7 => ?_
      refine tr_region [1, 2, 4, 13] rfl rfl fun K hK => ?_
      refine evR_p ?_
      refine evR_c (hc := (c38 p)) (k := ?_)
      refine evR_e hK ?_; clear hK K
      refine hK7 _ ?_
      refine tr_block ?_
      -- loop over a function 1: live [1, 2, 4]
      refine tr_rangeFunc (en := V.int .i64) (c58 p hr hg hc hv) enok_int.rel rfl rfl okF_82 rfl (fun pre σ => σ = ⟨[(1, .ptr 0 0), (2, .ptr 1 0), (4, .ptr 2 0)], [(2, .cells [.bool (bestW p.gain pre).1, .int .i64 (bestW p.gain pre).2.1, .int .i64 (bestW p.gain pre).2.2, .nsl]), (1, .cells [.bool false, .int .i64 0, .int .i64 0, .nsl]), (0, .cells (encPg p))], 3⟩) [1, 2, 4] ?_ ?_ ?_
      · rfl
      · rintro pre x σ rfl hpre KL1 hKL1 KA1 hKA1
        simp only [St.rd, List.filter_cons, List.filter_nil, List.map_cons, List.map_nil, Nat.blt_eq, Nat.reduceLT, ↓reduceIte, List.cons_append, List.nil_append, Nat.reduceAdd]
        refine tr_region [1, 4, 5, 2000001, 2000002, 2000004] rfl rfl fun K hK => ?_
        refine evR_p ?_
        refine evR_e hK ?_; clear hK K
        refine hKA1 _ ?_
        refine tr_block ?_
        refine tr_seq fun K8 hK8 => ?_
        refine tr_region [4, 5, 6, 2000001, 2000002, 2000004] rfl rfl fun K hK => ?_
        iterate 3 refine evR_p ?_
        refine evR_c (hc := (c39 _ _ hg)) (k := ?_)
        refine evR_p ?_
        refine evR_e hK ?_; clear hK K
        refine hK8 _ ?_
        refine tr_seq fun K9 hK9 => ?_
        refine tr_region [4, 5, 6, 27, 2000001, 2000002, 2000004] rfl rfl fun K hK => ?_
        iterate 4 refine evR_p ?_
        iterate 4 refine evR_g ?_
        refine evR_p ?_
        refine evR_e hK ?_; clear hK K
        refine hK9 _ ?_
        refine tr_condB (fun ht2 => ?_) (fun ht2 => ?_)
        · skip
          (first | (exfalso; simp_all; done) | skip)
          all_goals
            refine tr_region [2000001, 2000002, 2000004] rfl rfl fun K hK => ?_
            iterate 4 refine evR_p ?_
            refine evR_e hK ?_; clear hK K
            refine hKL1 _ ?_
            simp only [St.bk, List.filterMap_cons, List.filterMap_nil, Nat.ble_eq, Nat.reduceLeDiff, ↓reduceIte, Nat.reduceSub]
            first
              | exact ⟨_, Wk.refl _, by rw [bestW_snoc, bestS_t (by first | (rcases ht2 with h | h <;> simp [h]; done) | (simp_all; done))]; rfl⟩
              | exact ⟨_, Wk.refl _, by rw [bestW_snoc, bestS_f (by first | (simp only [ht2, Bool.not_true, Bool.false_or]; done) | (simp_all; done))]; rfl⟩
        · skip
          (first | (exfalso; simp_all; done) | skip)
          all_goals
            refine tr_skip ?_
            (try simp only [thenE, inBlkE])
            refine hKL1 _ ?_
            simp only [St.bk, List.filterMap_cons, List.filterMap_nil, Nat.ble_eq, Nat.reduceLeDiff, ↓reduceIte, Nat.reduceSub]
            first
              | exact ⟨_, Wk.refl _, by rw [bestW_snoc, bestS_t (by first | (rcases ht2 with h | h <;> simp [h]; done) | (simp_all; done))]; rfl⟩
              | exact ⟨_, Wk.refl _, by rw [bestW_snoc, bestS_f (by first | (simp only [ht2, Bool.not_true, Bool.false_or]; done) | (simp_all; done))]; rfl⟩
      · rintro pre σ hS rfl
        subst hS
        have eb : bestW p.gain (choiceL p) = solveB p := rfl
        rw [eb]
        obtain ⟨vn, hvn⟩ := Int.eq_ofNat_of_zero_le q0
        refine hK6 _ ?_
        refine tr_seq fun K10 hK10 => ?_
        refine tr_region [1, 2, 4, 7] rfl rfl fun K hK => ?_
        iterate 3 refine evR_p ?_
        refine evR_e hK ?_; clear hK K
        refine hK10 _ ?_
        refine tr_seq fun K11 hK11 => ?_
        refine tr_seq fun K12 hK12 => ?_
        refine tr_region [1, 2, 4, 7, 34] rfl rfl fun K hK => ?_
        iterate 2 refine evR_p ?_
        refine evR_e hK ?_; clear hK K
        refine hK12 _ ?_
        refine tr_condB (fun ht3 => ?_) (fun ht3 => ?_)
        · skip
          (first | (exfalso; simp_all; done) | skip)
          all_goals
            refine tr_draw [45] [2, 4, 7] mixed rfl (by kernel_rfl) rfl fun K hK => ?_
            iterate 9 refine evD_p ?_
            refine evD_c (hc := (c40 p (by omega) _)) (k := ?_)
            refine evD_bs ?_
            iterate 2 refine evD_p ?_
            refine evD_e hK ?_; clear hK K
            refine hK11 _ ?_
            refine tr_seq fun K13 hK13 => ?_
            refine tr_region [2, 4] rfl rfl fun K hK => ?_
            refine evR_p ?_
            refine evR_c (hc := (solRows_t (p := p) (b := solveB p) (by assumption) ▸ (c41 (solRows p (solveB p)) (by rw [solRows_t (by assumption)]; simp only [List.length_append, List.length_cons, List.length_nil, maxLen]; omega) p.vars.toNat (by omega) (solRows_coef hv _) (solve_inf hv)))) (k := ?_)
            iterate 2 refine evR_p ?_
            refine evR_e hK ?_; clear hK K
            refine hK13 _ ?_
            refine tr_seq fun K14 hK14 => ?_
            refine tr_region [2, 3] rfl rfl fun K hK => ?_
            iterate 3 refine evR_p ?_
            refine evR_e hK ?_; clear hK K
            refine hK14 _ ?_
            refine tr_ret ?_
            (try simp only [thenE, inBlkE])
            simp (maxSteps := 4000000) (disch := first | assumption | omega | (simp only [go_sem, *]; done) | (simp only [go_sem, *]; omega)) only [postA, postO, resV1, fzAll, go_sem, hq, Int.reduceToNat, Nat.reduceBEq, Nat.reduceEqDiff, Nat.reduceAdd, Nat.reduceMul, Nat.reduceLeDiff, Nat.reduceLT, Nat.reduceSub, ↓reduceIte, reduceCtorEq]
            all_goals (rfl)
        · skip
          (first | (exfalso; simp_all; done) | skip)
          all_goals
            refine tr_skip ?_
            (try simp only [thenE, inBlkE])
            refine hK11 _ ?_
            refine tr_seq fun K15 hK15 => ?_
            refine tr_region [2, 4] rfl rfl fun K hK => ?_
            refine evR_p ?_
            refine evR_c (hc := (solRows_f (p := p) (b := solveB p) (by assumption) ▸ (c41 (solRows p (solveB p)) (by rw [solRows_f (by assumption)]; exact hr) p.vars.toNat (by omega) (solRows_coef hv _) (solve_inf hv)))) (k := ?_)
            iterate 2 refine evR_p ?_
            refine evR_e hK ?_; clear hK K
            refine hK15 _ ?_
            refine tr_seq fun K16 hK16 => ?_
            refine tr_region [2, 3] rfl rfl fun K hK => ?_
            iterate 3 refine evR_p ?_
            refine evR_e hK ?_; clear hK K
            refine hK16 _ ?_
            refine tr_ret ?_
            (try simp only [thenE, inBlkE])
            simp (maxSteps := 4000000) (disch := first | assumption | omega | (simp only [go_sem, *]; done) | (simp only [go_sem, *]; omega)) only [postA, postO, resV1, fzAll, go_sem, hq, Int.reduceToNat, Nat.reduceBEq, Nat.reduceEqDiff, Nat.reduceAdd, Nat.reduceMul, Nat.reduceLeDiff, Nat.reduceLT, Nat.reduceSub, ↓reduceIte, reduceCtorEq]
            all_goals (rfl)
end

end Go.Proofs.YtaaongcfeldcoaaDoor


namespace Go.Proofs.YtaaongcfeldcoaaDoor
open Go.RowKit
set_option linter.unusedVariables false
set_option linter.unusedSimpArgs false
set_option maxRecDepth 100000
attribute [local go_sem] Nat.zero_add Nat.add_zero Nat.mul_one eq_self ne_eq not_true_eq_false not_false_eq_true decide_true decide_false decide_not Bool.false_eq_true List.filter_cons List.filter_nil true_and and_true beq_false beq_true Bool.not_true Bool.not_false Bool.and_true Bool.true_and Option.getD_some Option.getD_none imp_self implies_true Int.toNat_natCast List.cons_append List.nil_append List.map_cons List.map_nil List.length_cons List.length_nil List.getD_cons_zero List.getD_cons_succ List.drop_zero List.drop_succ_cons List.take_succ_cons List.take_zero
attribute [local go_sem] lowN lowQ lowM isAl appOwn unw appF isE isO stpO notIn St.bare evO evDO isEff stp St.get St.slot St.put List.lookup un unL ofVal gof nth pickV pkB_false pkB_true binV unV loadV idxV fldV partV buildV fillV lenV sliV appV appR rowsV winV V.parts V.okp V.sc Mem.look_cons Mem.look_nil V.cl V.clL AObj.clo fzAll exps St.fz Mem.fz V.fz V.fzL AObj.fz Option.isSome_some Option.isSome_none Bool.or_true Bool.true_or Bool.or_false Bool.false_or false_and and_false false_or or_false arT_112 arT_22 arT_23 arT_27 arT_28 arT_29 arT_33 arT_52 arT_57 arT_65 arT_76 arT_77 arT_84 arT_88 arT_9 arT_95 boolT_133 boolT_29 boolT_3 boolT_36 boolT_4 boolT_70 boolT_92 flatT_133 flatT_29 flatT_3 flatT_36 flatT_4 flatT_70 flatT_92 intT_121 intT_142 intT_144 intT_145 intT_3 intT_5 lay_110 lay_145 lay_22 lay_23 lay_25 lay_27 lay_28 lay_29 lay_3 lay_31 lay_33 lay_35 lay_4 lay_42 lay_51 lay_56 lay_57 lay_59 lay_70 lay_73 lay_77 lay_79 lay_81 lay_83 lay_84 lay_85 lay_88 lay_92 lay_94 lay_95 okF_10 okF_100 okF_101 okF_102 okF_103 okF_104 okF_105 okF_11 okF_12 okF_122 okF_123 okF_124 okF_125 okF_126 okF_127 okF_13 okF_14 okF_15 okF_16 okF_17 okF_18 okF_19 okF_20 okF_21 okF_22 okF_23 okF_24 okF_25 okF_26 okF_27 okF_28 okF_29 okF_3 okF_30 okF_31 okF_32 okF_33 okF_34 okF_35 okF_36 okF_37 okF_38 okF_39 okF_4 okF_40 okF_41 okF_42 okF_43 okF_44 okF_45 okF_46 okF_47 okF_48 okF_49 okF_5 okF_50 okF_51 okF_52 okF_53 okF_54 okF_55 okF_56 okF_57 okF_58 okF_59 okF_6 okF_60 okF_61 okF_62 okF_63 okF_64 okF_65 okF_66 okF_67 okF_68 okF_69 okF_7 okF_70 okF_71 okF_72 okF_73 okF_74 okF_75 okF_76 okF_77 okF_78 okF_79 okF_8 okF_80 okF_81 okF_82 okF_83 okF_84 okF_85 okF_86 okF_87 okF_88 okF_89 okF_9 okF_90 okF_91 okF_92 okF_93 okF_94 okF_95 okF_96 okF_97 okF_98 okF_99 plT_31 plT_35 plT_51 plT_56 plT_59 plT_70 plT_73 plT_90 plT_92 plT_95 slT_112 slT_22 slT_23 slT_27 slT_28 slT_29 slT_33 slT_52 slT_57 slT_65 slT_76 slT_77 slT_88 slT_95 stT_25_0 stT_25_1 stT_25_2 stT_25_3 stT_25_4 stT_31_0 stT_31_1 stT_31_2 stT_31_3 stT_35_0 stT_35_1 stT_35_2 stT_35_3 stT_51_0 stT_51_1 stT_56_0 stT_56_1 stT_56_2 stT_56_3 stT_59_0 stT_59_1 stT_59_2 stT_73_0 stT_73_3 stT_73_4 stT_73_5 stT_79_0 stT_79_1 stT_79_2 stT_83_0 stT_90_0 stT_90_1 stT_90_2 stT_90_3 strT_76 strT_77 strT_84 strT_9 zeroT_112 zeroT_145 zeroT_3 zeroT_31 zeroT_33 zeroT_35 zeroT_42 zeroT_51 zeroT_56 zeroT_57 zeroT_59 zeroT_70 zeroT_73 zeroT_79 zeroT_83 zeroT_90 zeroT_92 zeroT_95
attribute [local go_sem] List.getElem?_cons_zero List.getElem?_cons_succ List.zip_cons_cons List.zip_nil_left List.zip_nil_right Bool.false_and Bool.and_false List.length_append List.length_set List.length_replicate List.all_cons List.all_nil encI_length encI_getD encR_length encR_getD encRw encPg spl shp AObj.shp rowM isSt isRpS isRd csh AObj.csh forall_const imp_self
attribute [local go_sem] encHr encOf encSp encP2 encSps_length encOfs_length encP2s_length encSps_getD encOfs_getD encP2s_getD
attribute [local simp] encI_length encR_length cellsI_length encSps_length encOfs_length encP2s_length
section
attribute [local go_sem] encPg encSol
theorem k10 (h : Hr) (hv : validH h = true) : CallsA Tryd.prog 10 [.agg (encHr h)] (.tup [.agg (encSol (bestH h)), .int .i64 0]) := by
  have hV := validH_all hv
  have hr : h.rooms.length ≤ maxLen := by have := hV.rl; unfold maxLen; omega
  have ho : h.offers.length ≤ maxLen := by have := hV.ol; unfold maxLen; omega
  have ha : h.apart.length ≤ maxLen := by have := hV.al; unfold maxLen; omega
  have hm : h.must.length ≤ maxLen := by have := hV.ml; unfold maxLen; omega
  have hol := hV.ol
  have hrl := hV.rl
  have hpv := progH_valid hV
  have hq : True := trivial
  refine callsA_of_tr Tryd.func10 rfl (Nat.le_of_ble_eq_true rfl) ?_
  simp only [Tryd.results10, envOf, Nat.reduceAdd]
  refine tr_seq fun K1 hK1 => ?_
  refine tr_region [1, 2] rfl rfl fun K hK => ?_
  iterate 3 refine evR_p ?_
  refine evR_e hK ?_; clear hK K
  refine hK1 _ ?_
  refine tr_seq fun K2 hK2 => ?_
  refine tr_region [2, 4, 5] rfl rfl fun K hK => ?_
  refine evR_p ?_
  refine evR_c (hc := (k20 h hv)) (k := ?_)
  iterate 6 refine evR_p ?_
  refine evR_e hK ?_; clear hK K
  refine hK2 _ ?_
  refine tr_seq fun K3 hK3 => ?_
  refine tr_seq fun K4 hK4 => ?_
  refine tr_region [2, 4, 5, 13] rfl rfl fun K hK => ?_
  iterate 2 refine evR_p ?_
  refine evR_e hK ?_; clear hK K
  refine hK4 _ ?_
  refine tr_condB (fun ht1 => ?_) (fun ht1 => ?_)
  · skip
    (first | (exfalso; simp_all; done) | skip)
    all_goals
      refine tr_seq fun K5 hK5 => ?_
      refine tr_region [2, 3] rfl rfl fun K hK => ?_
      iterate 4 refine evR_p ?_
      refine evR_e hK ?_; clear hK K
      refine hK5 _ ?_
      refine tr_ret ?_
      (try simp only [thenE, inBlkE])
      simp (maxSteps := 4000000) (disch := first | assumption | omega | (simp only [go_sem, *]; done) | (simp only [go_sem, *]; omega)) only [postA, postO, resV1, fzAll, go_sem, hq, Int.reduceToNat, Nat.reduceBEq, Nat.reduceEqDiff, Nat.reduceAdd, Nat.reduceMul, Nat.reduceLeDiff, Nat.reduceLT, Nat.reduceSub, ↓reduceIte, reduceCtorEq]
      all_goals (rfl)
  · skip
    (first | (exfalso; simp_all; done) | skip)
    all_goals
      refine tr_skip ?_
      (try simp only [thenE, inBlkE])
      refine hK3 _ ?_
      refine tr_seq fun K6 hK6 => ?_
      refine tr_region [2, 5, 6] rfl rfl fun K hK => ?_
      refine evR_p ?_
      refine evR_c (hc := (c14 (progH h) (valid_max hpv).1 (valid_max hpv).2.1 (valid_max hpv).2.2 hpv)) (k := ?_)
      iterate 6 refine evR_p ?_
      refine evR_e hK ?_; clear hK K
      refine hK6 _ ?_
      refine tr_seq fun K7 hK7 => ?_
      refine tr_seq fun K8 hK8 => ?_
      refine tr_region [2, 6, 22] rfl rfl fun K hK => ?_
      iterate 2 refine evR_p ?_
      refine evR_e hK ?_; clear hK K
      refine hK8 _ ?_
      refine tr_condB (fun ht2 => ?_) (fun ht2 => ?_)
      · skip
        (first | (exfalso; simp_all; done) | skip)
        all_goals
          refine tr_seq fun K9 hK9 => ?_
          refine tr_region [2, 3] rfl rfl fun K hK => ?_
          iterate 3 refine evR_p ?_
          refine evR_e hK ?_; clear hK K
          refine hK9 _ ?_
          refine tr_ret ?_
          (try simp only [thenE, inBlkE])
          simp (maxSteps := 4000000) (disch := first | assumption | omega | (simp only [go_sem, *]; done) | (simp only [go_sem, *]; omega)) only [postA, postO, resV1, fzAll, go_sem, hq, Int.reduceToNat, Nat.reduceBEq, Nat.reduceEqDiff, Nat.reduceAdd, Nat.reduceMul, Nat.reduceLeDiff, Nat.reduceLT, Nat.reduceSub, ↓reduceIte, reduceCtorEq]
          all_goals (rfl)
      · skip
        (first | (exfalso; simp_all; done) | skip)
        all_goals
          refine tr_skip ?_
          (try simp only [thenE, inBlkE])
          refine hK7 _ ?_
          refine tr_seq fun K10 hK10 => ?_
          refine tr_region [2, 3] rfl rfl fun K hK => ?_
          iterate 3 refine evR_p ?_
          refine evR_e hK ?_; clear hK K
          refine hK10 _ ?_
          refine tr_ret ?_
          (try simp only [thenE, inBlkE])
          simp (maxSteps := 4000000) (disch := first | assumption | omega | (simp only [go_sem, *]; done) | (simp only [go_sem, *]; omega)) only [postA, postO, resV1, fzAll, go_sem, hq, Int.reduceToNat, Nat.reduceBEq, Nat.reduceEqDiff, Nat.reduceAdd, Nat.reduceMul, Nat.reduceLeDiff, Nat.reduceLT, Nat.reduceSub, ↓reduceIte, reduceCtorEq]
          all_goals (rfl)
end

theorem k10n (h : Hr) (hr : h.rooms.length ≤ maxLen) (ho : h.offers.length ≤ maxLen) (ha : h.apart.length ≤ maxLen) (hm : h.must.length ≤ maxLen) (hv : validH h = false) : CallsA Tryd.prog 10 [.agg (encHr h)] (.tup [.agg [.bool false, .int .i64 0, .int .i64 0, .nsl], .int .i64 250]) := by
  have hq : True := trivial
  refine callsA_of_tr Tryd.func10 rfl (Nat.le_of_ble_eq_true rfl) ?_
  simp only [Tryd.results10, envOf, Nat.reduceAdd]
  refine tr_seq fun K1 hK1 => ?_
  refine tr_region [1, 2] rfl rfl fun K hK => ?_
  iterate 3 refine evR_p ?_
  refine evR_e hK ?_; clear hK K
  refine hK1 _ ?_
  refine tr_seq fun K2 hK2 => ?_
  refine tr_region [2, 4, 5] rfl rfl fun K hK => ?_
  refine evR_p ?_
  refine evR_c (hc := (k20n h hr ho ha hm hv)) (k := ?_)
  iterate 6 refine evR_p ?_
  refine evR_e hK ?_; clear hK K
  refine hK2 _ ?_
  refine tr_seq fun K3 hK3 => ?_
  refine tr_seq fun K4 hK4 => ?_
  refine tr_region [2, 4, 5, 13] rfl rfl fun K hK => ?_
  iterate 2 refine evR_p ?_
  refine evR_e hK ?_; clear hK K
  refine hK4 _ ?_
  refine tr_condB (fun ht1 => ?_) (fun ht1 => ?_)
  · skip
    (first | (exfalso; simp_all; done) | skip)
    all_goals
      refine tr_seq fun K5 hK5 => ?_
      refine tr_region [2, 3] rfl rfl fun K hK => ?_
      iterate 4 refine evR_p ?_
      refine evR_e hK ?_; clear hK K
      refine hK5 _ ?_
      refine tr_ret ?_
      (try simp only [thenE, inBlkE])
      simp (maxSteps := 4000000) (disch := first | assumption | omega | (simp only [go_sem, *]; done) | (simp only [go_sem, *]; omega)) only [postA, postO, resV1, fzAll, go_sem, hq, Int.reduceToNat, Nat.reduceBEq, Nat.reduceEqDiff, Nat.reduceAdd, Nat.reduceMul, Nat.reduceLeDiff, Nat.reduceLT, Nat.reduceSub, ↓reduceIte, reduceCtorEq]
      all_goals (rfl)
  · skip
    (first | (exfalso; simp_all; done) | skip)
    all_goals
      refine tr_skip ?_
      (try simp only [thenE, inBlkE])
      refine hK3 _ ?_
      refine tr_seq fun K6 hK6 => ?_
      refine tr_region [2, 5, 6] rfl rfl fun K hK => ?_
      refine evR_p ?_
      refine evR_c (hc := (c14 (progH h) (valid_max hpv).1 (valid_max hpv).2.1 (valid_max hpv).2.2 hpv)) (k := ?_)
      iterate 6 refine evR_p ?_
      refine evR_e hK ?_; clear hK K
      refine hK6 _ ?_
      refine tr_seq fun K7 hK7 => ?_
      refine tr_seq fun K8 hK8 => ?_
      refine tr_region [2, 6, 22] rfl rfl fun K hK => ?_
      iterate 2 refine evR_p ?_
      refine evR_e hK ?_; clear hK K
      refine hK8 _ ?_
      refine tr_condB (fun ht2 => ?_) (fun ht2 => ?_)
      · skip
        (first | (exfalso; simp_all; done) | skip)
        all_goals
          refine tr_seq fun K9 hK9 => ?_
          refine tr_region [2, 3] rfl rfl fun K hK => ?_
          iterate 3 refine evR_p ?_
          refine evR_e hK ?_; clear hK K
          refine hK9 _ ?_
          refine tr_ret ?_
          (try simp only [thenE, inBlkE])
          simp (maxSteps := 4000000) (disch := first | assumption | omega | (simp only [go_sem, *]; done) | (simp only [go_sem, *]; omega)) only [postA, postO, resV1, fzAll, go_sem, hq, Int.reduceToNat, Nat.reduceBEq, Nat.reduceEqDiff, Nat.reduceAdd, Nat.reduceMul, Nat.reduceLeDiff, Nat.reduceLT, Nat.reduceSub, ↓reduceIte, reduceCtorEq]
          all_goals (rfl)
      · skip
        (first | (exfalso; simp_all; done) | skip)
        all_goals
          refine tr_skip ?_
          (try simp only [thenE, inBlkE])
          refine hK7 _ ?_
          refine tr_seq fun K10 hK10 => ?_
          refine tr_region [2, 3] rfl rfl fun K hK => ?_
          iterate 3 refine evR_p ?_
          refine evR_e hK ?_; clear hK K
          refine hK10 _ ?_
          refine tr_ret ?_
          (try simp only [thenE, inBlkE])
          simp (maxSteps := 4000000) (disch := first | assumption | omega | (simp only [go_sem, *]; done) | (simp only [go_sem, *]; omega)) only [postA, postO, resV1, fzAll, go_sem, hq, Int.reduceToNat, Nat.reduceBEq, Nat.reduceEqDiff, Nat.reduceAdd, Nat.reduceMul, Nat.reduceLeDiff, Nat.reduceLT, Nat.reduceSub, ↓reduceIte, reduceCtorEq]
          all_goals (rfl)

end Go.Proofs.YtaaongcfeldcoaaDoor


namespace Go.Proofs.YtaaongcfeldcoaaDoor
open Go.RowKit
set_option linter.unusedVariables false
set_option linter.unusedSimpArgs false
set_option maxRecDepth 100000
attribute [local go_sem] Nat.zero_add Nat.add_zero Nat.mul_one eq_self ne_eq not_true_eq_false not_false_eq_true decide_true decide_false decide_not Bool.false_eq_true List.filter_cons List.filter_nil true_and and_true beq_false beq_true Bool.not_true Bool.not_false Bool.and_true Bool.true_and Option.getD_some Option.getD_none imp_self implies_true Int.toNat_natCast List.cons_append List.nil_append List.map_cons List.map_nil List.length_cons List.length_nil List.getD_cons_zero List.getD_cons_succ List.drop_zero List.drop_succ_cons List.take_succ_cons List.take_zero
attribute [local go_sem] lowN lowQ lowM isAl appOwn unw appF isE isO stpO notIn St.bare evO evDO isEff stp St.get St.slot St.put List.lookup un unL ofVal gof nth pickV pkB_false pkB_true binV unV loadV idxV fldV partV buildV fillV lenV sliV appV appR rowsV winV V.parts V.okp V.sc Mem.look_cons Mem.look_nil V.cl V.clL AObj.clo fzAll exps St.fz Mem.fz V.fz V.fzL AObj.fz Option.isSome_some Option.isSome_none Bool.or_true Bool.true_or Bool.or_false Bool.false_or false_and and_false false_or or_false arT_112 arT_22 arT_23 arT_27 arT_28 arT_29 arT_33 arT_52 arT_57 arT_65 arT_76 arT_77 arT_84 arT_88 arT_9 arT_95 boolT_133 boolT_29 boolT_3 boolT_36 boolT_4 boolT_70 boolT_92 flatT_133 flatT_29 flatT_3 flatT_36 flatT_4 flatT_70 flatT_92 intT_121 intT_142 intT_144 intT_145 intT_3 intT_5 lay_110 lay_145 lay_22 lay_23 lay_25 lay_27 lay_28 lay_29 lay_3 lay_31 lay_33 lay_35 lay_4 lay_42 lay_51 lay_56 lay_57 lay_59 lay_70 lay_73 lay_77 lay_79 lay_81 lay_83 lay_84 lay_85 lay_88 lay_92 lay_94 lay_95 okF_10 okF_100 okF_101 okF_102 okF_103 okF_104 okF_105 okF_11 okF_12 okF_122 okF_123 okF_124 okF_125 okF_126 okF_127 okF_13 okF_14 okF_15 okF_16 okF_17 okF_18 okF_19 okF_20 okF_21 okF_22 okF_23 okF_24 okF_25 okF_26 okF_27 okF_28 okF_29 okF_3 okF_30 okF_31 okF_32 okF_33 okF_34 okF_35 okF_36 okF_37 okF_38 okF_39 okF_4 okF_40 okF_41 okF_42 okF_43 okF_44 okF_45 okF_46 okF_47 okF_48 okF_49 okF_5 okF_50 okF_51 okF_52 okF_53 okF_54 okF_55 okF_56 okF_57 okF_58 okF_59 okF_6 okF_60 okF_61 okF_62 okF_63 okF_64 okF_65 okF_66 okF_67 okF_68 okF_69 okF_7 okF_70 okF_71 okF_72 okF_73 okF_74 okF_75 okF_76 okF_77 okF_78 okF_79 okF_8 okF_80 okF_81 okF_82 okF_83 okF_84 okF_85 okF_86 okF_87 okF_88 okF_89 okF_9 okF_90 okF_91 okF_92 okF_93 okF_94 okF_95 okF_96 okF_97 okF_98 okF_99 plT_31 plT_35 plT_51 plT_56 plT_59 plT_70 plT_73 plT_90 plT_92 plT_95 slT_112 slT_22 slT_23 slT_27 slT_28 slT_29 slT_33 slT_52 slT_57 slT_65 slT_76 slT_77 slT_88 slT_95 stT_25_0 stT_25_1 stT_25_2 stT_25_3 stT_25_4 stT_31_0 stT_31_1 stT_31_2 stT_31_3 stT_35_0 stT_35_1 stT_35_2 stT_35_3 stT_51_0 stT_51_1 stT_56_0 stT_56_1 stT_56_2 stT_56_3 stT_59_0 stT_59_1 stT_59_2 stT_73_0 stT_73_3 stT_73_4 stT_73_5 stT_79_0 stT_79_1 stT_79_2 stT_83_0 stT_90_0 stT_90_1 stT_90_2 stT_90_3 strT_76 strT_77 strT_84 strT_9 zeroT_112 zeroT_145 zeroT_3 zeroT_31 zeroT_33 zeroT_35 zeroT_42 zeroT_51 zeroT_56 zeroT_57 zeroT_59 zeroT_70 zeroT_73 zeroT_79 zeroT_83 zeroT_90 zeroT_92 zeroT_95
attribute [local go_sem] List.getElem?_cons_zero List.getElem?_cons_succ List.zip_cons_cons List.zip_nil_left List.zip_nil_right Bool.false_and Bool.and_false List.length_append List.length_set List.length_replicate List.all_cons List.all_nil encI_length encI_getD encR_length encR_getD encRw encPg spl shp AObj.shp rowM isSt isRpS isRd csh AObj.csh forall_const imp_self
attribute [local go_sem] encHr encOf encSp encP2 encSps_length encOfs_length encP2s_length encSps_getD encOfs_getD encP2s_getD
attribute [local simp] encI_length encR_length cellsI_length encSps_length encOfs_length encP2s_length
section
attribute [local go_sem] encSol
set_option maxHeartbeats 4000000 in
theorem k15 (h : Hr) (hr : h.rooms.length ≤ maxLen) (ho : h.offers.length ≤ maxLen) (ha : h.apart.length ≤ maxLen) (hm : h.must.length ≤ maxLen) (n : Int) : CallsA Tryd.prog 15 [.agg (encHr h), .int .i64 n] (.tup (refV h n)) := by
  have hq := encI_one
  refine callsA_of_tr Tryd.func15 rfl (Nat.le_of_ble_eq_true rfl) ?_
  simp only [Tryd.results15, envOf, Nat.reduceAdd]
  refine tr_seq fun K1 hK1 => ?_
  refine tr_region [1, 2] rfl rfl fun K hK => ?_
  iterate 4 refine evR_p ?_
  refine evR_e hK ?_; clear hK K
  refine hK1 _ ?_
  refine tr_seq fun K2 hK2 => ?_
  refine tr_seq fun K3 hK3 => ?_
  refine tr_region [1, 2, 16] rfl rfl fun K hK => ?_
  refine evR_p ?_
  refine evR_c (hc := (k19 h hr ho ha hm)) (k := ?_)
  iterate 2 refine evR_p ?_
  refine evR_g ?_
  refine evR_gc (hc := (k31 n)) (k := ?_)
  refine evR_g ?_
  refine evR_p ?_
  refine evR_e hK ?_; clear hK K
  refine hK3 _ ?_
  refine tr_condB (fun ht1 => ?_) (fun ht1 => ?_)
  · skip
    (first | (have hrv := ref_no ht1; skip) | (have hvl : validH h = true := ht1.1; have hnl : isInB n 0 11 = true := ht1.2; have hV := validH_all hvl; have hml := hV.ml; have hwv := with_valid hvl (isInB_spec.1 hnl); have hcs := cs_ins (valid_pw hvl) n; replace hq := And.intro hq hcs) | skip)
    refine tr_seq fun K4 hK4 => ?_
    refine tr_region [4, 5, 6] rfl rfl fun K hK => ?_
    iterate 3 refine evR_p ?_
    refine evR_e hK ?_; clear hK K
    refine hK4 _ ?_
    refine tr_ret ?_
    (try simp only [thenE, inBlkE])
    simp (maxSteps := 4000000) (disch := first | assumption | omega | (simp only [go_sem, *]; done) | (simp only [go_sem, *]; omega)) only [postA, postO, resV1, fzAll, go_sem, hq, Int.reduceToNat, Nat.reduceBEq, Nat.reduceEqDiff, Nat.reduceAdd, Nat.reduceMul, Nat.reduceLeDiff, Nat.reduceLT, Nat.reduceSub, ↓reduceIte, reduceCtorEq]
    all_goals (first | (rw [hrv]; done) | (rw [ref_f hvl hnl ht2]; done) | (rw [ref_t hvl hnl ht2]; done))
  · skip
    (first | (have hrv := ref_no ht1; skip) | (have hvl : validH h = true := ht1.1; have hnl : isInB n 0 11 = true := ht1.2; have hV := validH_all hvl; have hml := hV.ml; have hwv := with_valid hvl (isInB_spec.1 hnl); have hcs := cs_ins (valid_pw hvl) n; replace hq := And.intro hq hcs) | skip)
    refine tr_skip ?_
    (try simp only [thenE, inBlkE])
    refine hK2 _ ?_
    refine tr_seq fun K5 hK5 => ?_
    refine tr_region [2] rfl rfl fun K hK => ?_
    iterate 2 refine evR_p ?_
    refine evR_stepX fun Kq hKq => Or.inr ?_
    simp (maxSteps := 4000000) (disch := first | assumption | omega | (simp only [go_sem, *]; done) | (simp only [go_sem, *]; omega)) only [stpM, go_sem, hq, Int.reduceToNat, Nat.reduceBEq, Nat.reduceEqDiff, Nat.reduceAdd, Nat.reduceMul, Nat.reduceLeDiff, Nat.reduceLT, Nat.reduceSub, ↓reduceIte, reduceCtorEq]
    refine ⟨[], ?_⟩
    simp (maxSteps := 4000000) (disch := first | assumption | omega | (simp only [go_sem, *]; done) | (simp only [go_sem, *]; omega)) only [V.mapL, V.map, gJ, footJ, inJ, AObj.map, ndJ, ltJ, V.domL, V.dom, AObj.dom, kC, kR, AObj.isC, hJ, backJ, List.any_cons, List.any_nil, Nat.ble_eq, Nat.blt_eq, Nat.reduceLT, Nat.reduceLeDiff, Bool.or_true, Bool.true_or, Bool.or_false, Bool.false_or, Bool.and_self, go_sem, hq, Int.reduceToNat, Nat.reduceBEq, Nat.reduceEqDiff, Nat.reduceAdd, Nat.reduceMul, Nat.reduceLeDiff, Nat.reduceLT, Nat.reduceSub, ↓reduceIte, reduceCtorEq]
    refine ⟨_, _, _, (k32 h.must (by omega)), ?_⟩
    simp (maxSteps := 4000000) (disch := first | assumption | omega | (simp only [go_sem, *]; done) | (simp only [go_sem, *]; omega)) only [V.mapL, V.map, gJ, footJ, inJ, AObj.map, ndJ, ltJ, V.domL, V.dom, AObj.dom, kC, kR, AObj.isC, hJ, backJ, List.any_cons, List.any_nil, Nat.ble_eq, Nat.blt_eq, Nat.reduceLT, Nat.reduceLeDiff, Bool.or_true, Bool.true_or, Bool.or_false, Bool.false_or, Bool.and_self, go_sem, hq, Int.reduceToNat, Nat.reduceBEq, Nat.reduceEqDiff, Nat.reduceAdd, Nat.reduceMul, Nat.reduceLeDiff, Nat.reduceLT, Nat.reduceSub, ↓reduceIte, reduceCtorEq]
    (repeat (refine And.intro (by first | assumption | omega | decide | (simp; done) | (simp; omega) | (have hq := hvv hgt; omega) | (have hq := hvv hgt.1; omega) | (simp_all; done)) ?_))
    refine hKq _ ?_; clear hKq Kq
    refine evR_p ?_
    refine evR_bs ?_
    iterate 3 refine evR_p ?_
    refine evR_e hK ?_; clear hK K
    refine hK5 _ ?_
    refine tr_seq fun K6 hK6 => ?_
    refine tr_region [2] rfl rfl fun K hK => ?_
    iterate 2 refine evR_p ?_
    refine evR_stepX fun Kq hKq => Or.inr ?_
    simp (maxSteps := 4000000) (disch := first | assumption | omega | (simp only [go_sem, *]; done) | (simp only [go_sem, *]; omega)) only [stpM, go_sem, hq, Int.reduceToNat, Nat.reduceBEq, Nat.reduceEqDiff, Nat.reduceAdd, Nat.reduceMul, Nat.reduceLeDiff, Nat.reduceLT, Nat.reduceSub, ↓reduceIte, reduceCtorEq]
    refine ⟨[2], ?_⟩
    simp (maxSteps := 4000000) (disch := first | assumption | omega | (simp only [go_sem, *]; done) | (simp only [go_sem, *]; omega)) only [V.mapL, V.map, gJ, footJ, inJ, AObj.map, ndJ, ltJ, V.domL, V.dom, AObj.dom, kC, kR, AObj.isC, hJ, backJ, List.any_cons, List.any_nil, Nat.ble_eq, Nat.blt_eq, Nat.reduceLT, Nat.reduceLeDiff, Bool.or_true, Bool.true_or, Bool.or_false, Bool.false_or, Bool.and_self, go_sem, hq, Int.reduceToNat, Nat.reduceBEq, Nat.reduceEqDiff, Nat.reduceAdd, Nat.reduceMul, Nat.reduceLeDiff, Nat.reduceLT, Nat.reduceSub, ↓reduceIte, reduceCtorEq]
    refine ⟨_, _, _, (k33 (h.must ++ [n]) 3 (by simp) (by simp; omega)), ?_⟩
    simp (maxSteps := 4000000) (disch := first | assumption | omega | (simp only [go_sem, *]; done) | (simp only [go_sem, *]; omega)) only [V.mapL, V.map, gJ, footJ, inJ, AObj.map, ndJ, ltJ, V.domL, V.dom, AObj.dom, kC, kR, AObj.isC, hJ, backJ, List.any_cons, List.any_nil, Nat.ble_eq, Nat.blt_eq, Nat.reduceLT, Nat.reduceLeDiff, Bool.or_true, Bool.true_or, Bool.or_false, Bool.false_or, Bool.and_self, go_sem, hq, Int.reduceToNat, Nat.reduceBEq, Nat.reduceEqDiff, Nat.reduceAdd, Nat.reduceMul, Nat.reduceLeDiff, Nat.reduceLT, Nat.reduceSub, ↓reduceIte, reduceCtorEq]
    (repeat (refine And.intro (by first | assumption | omega | decide | (simp; done) | (simp; omega) | (have hq := hvv hgt; omega) | (have hq := hvv hgt.1; omega) | (simp_all; done)) ?_))
    refine hKq _ ?_; clear hKq Kq
    refine evR_e hK ?_; clear hK K
    refine hK6 _ ?_
    refine tr_seq fun K7 hK7 => ?_
    refine tr_region [2] rfl rfl fun K hK => ?_
    iterate 2 refine evR_p ?_
    refine evR_stepX fun Kq hKq => Or.inr ?_
    simp (maxSteps := 4000000) (disch := first | assumption | omega | (simp only [go_sem, *]; done) | (simp only [go_sem, *]; omega)) only [stpM, go_sem, hq, Int.reduceToNat, Nat.reduceBEq, Nat.reduceEqDiff, Nat.reduceAdd, Nat.reduceMul, Nat.reduceLeDiff, Nat.reduceLT, Nat.reduceSub, ↓reduceIte, reduceCtorEq]
    refine ⟨[2], ?_⟩
    simp (maxSteps := 4000000) (disch := first | assumption | omega | (simp only [go_sem, *]; done) | (simp only [go_sem, *]; omega)) only [V.mapL, V.map, gJ, footJ, inJ, AObj.map, ndJ, ltJ, V.domL, V.dom, AObj.dom, kC, kR, AObj.isC, hJ, backJ, List.any_cons, List.any_nil, Nat.ble_eq, Nat.blt_eq, Nat.reduceLT, Nat.reduceLeDiff, Bool.or_true, Bool.true_or, Bool.or_false, Bool.false_or, Bool.and_self, go_sem, hq, Int.reduceToNat, Nat.reduceBEq, Nat.reduceEqDiff, Nat.reduceAdd, Nat.reduceMul, Nat.reduceLeDiff, Nat.reduceLT, Nat.reduceSub, ↓reduceIte, reduceCtorEq]
    refine ⟨_, _, _, (k34 (sortI (h.must ++ [n])) 3 (by rw [sortI_len]; simp) (by rw [sortI_len]; simp; omega)), ?_⟩
    simp (maxSteps := 4000000) (disch := first | assumption | omega | (simp only [go_sem, *]; done) | (simp only [go_sem, *]; omega)) only [V.mapL, V.map, gJ, footJ, inJ, AObj.map, ndJ, ltJ, V.domL, V.dom, AObj.dom, kC, kR, AObj.isC, hJ, backJ, List.any_cons, List.any_nil, Nat.ble_eq, Nat.blt_eq, Nat.reduceLT, Nat.reduceLeDiff, Bool.or_true, Bool.true_or, Bool.or_false, Bool.false_or, Bool.and_self, go_sem, hq, Int.reduceToNat, Nat.reduceBEq, Nat.reduceEqDiff, Nat.reduceAdd, Nat.reduceMul, Nat.reduceLeDiff, Nat.reduceLT, Nat.reduceSub, ↓reduceIte, reduceCtorEq]
    (repeat (refine And.intro (by first | assumption | omega | decide | (simp; done) | (simp; omega) | (have hq := hvv hgt; omega) | (have hq := hvv hgt.1; omega) | (simp_all; done)) ?_))
    refine hKq _ ?_; clear hKq Kq
    iterate 2 refine evR_p ?_
    refine evR_e hK ?_; clear hK K
    refine hK7 _ ?_
    refine tr_seq fun K8 hK8 => ?_
    refine tr_region [7, 8] rfl rfl fun K hK => ?_
    refine evR_p ?_
    refine evR_c (hc := (k10 (withH h n) hwv)) (k := ?_)
    iterate 6 refine evR_p ?_
    refine evR_e hK ?_; clear hK K
    refine hK8 _ ?_
    refine tr_seq fun K9 hK9 => ?_
    refine tr_seq fun K10 hK10 => ?_
    refine tr_region [7, 8, 41] rfl rfl fun K hK => ?_
    iterate 3 refine evR_p ?_
    iterate 2 refine evR_g ?_
    refine evR_p ?_
    refine evR_e hK ?_; clear hK K
    refine hK10 _ ?_
    refine tr_condB (fun ht2 => ?_) (fun ht2 => ?_)
    · skip
      (first | (have hrv := ref_no ht1; skip) | (have hvl : validH h = true := ht1.1; have hnl : isInB n 0 11 = true := ht1.2; have hV := validH_all hvl; have hml := hV.ml; have hwv := with_valid hvl (isInB_spec.1 hnl); have hcs := cs_ins (valid_pw hvl) n; replace hq := And.intro hq hcs) | skip)
      refine tr_seq fun K11 hK11 => ?_
      refine tr_region [4, 5, 6] rfl rfl fun K hK => ?_
      iterate 4 refine evR_p ?_
      refine evR_e hK ?_; clear hK K
      refine hK11 _ ?_
      refine tr_ret ?_
      (try simp only [thenE, inBlkE])
      simp (maxSteps := 4000000) (disch := first | assumption | omega | (simp only [go_sem, *]; done) | (simp only [go_sem, *]; omega)) only [postA, postO, resV1, fzAll, go_sem, hq, Int.reduceToNat, Nat.reduceBEq, Nat.reduceEqDiff, Nat.reduceAdd, Nat.reduceMul, Nat.reduceLeDiff, Nat.reduceLT, Nat.reduceSub, ↓reduceIte, reduceCtorEq]
      all_goals (first | (rw [hrv]; done) | (rw [ref_f hvl hnl ht2]; done) | (rw [ref_t hvl hnl ht2]; done))
    · skip
      (first | (have hrv := ref_no ht1; skip) | (have hvl : validH h = true := ht1.1; have hnl : isInB n 0 11 = true := ht1.2; have hV := validH_all hvl; have hml := hV.ml; have hwv := with_valid hvl (isInB_spec.1 hnl); have hcs := cs_ins (valid_pw hvl) n; replace hq := And.intro hq hcs) | skip)
      refine tr_skip ?_
      (try simp only [thenE, inBlkE])
      refine hK9 _ ?_
      refine tr_seq fun K12 hK12 => ?_
      refine tr_region [4, 5, 6] rfl rfl fun K hK => ?_
      iterate 5 refine evR_p ?_
      refine evR_e hK ?_; clear hK K
      refine hK12 _ ?_
      refine tr_ret ?_
      (try simp only [thenE, inBlkE])
      simp (maxSteps := 4000000) (disch := first | assumption | omega | (simp only [go_sem, *]; done) | (simp only [go_sem, *]; omega)) only [postA, postO, resV1, fzAll, go_sem, hq, Int.reduceToNat, Nat.reduceBEq, Nat.reduceEqDiff, Nat.reduceAdd, Nat.reduceMul, Nat.reduceLeDiff, Nat.reduceLT, Nat.reduceSub, ↓reduceIte, reduceCtorEq]
      all_goals (first | (rw [hrv]; done) | (rw [ref_f hvl hnl ht2]; done) | (rw [ref_t hvl hnl ht2]; done))
end

end Go.Proofs.YtaaongcfeldcoaaDoor


namespace Go.Proofs.YtaaongcfeldcoaaDoor
open Go.RowKit
set_option linter.unusedVariables false
set_option linter.unusedSimpArgs false
set_option maxRecDepth 100000
attribute [local go_sem] Nat.zero_add Nat.add_zero Nat.mul_one eq_self ne_eq not_true_eq_false not_false_eq_true decide_true decide_false decide_not Bool.false_eq_true List.filter_cons List.filter_nil true_and and_true beq_false beq_true Bool.not_true Bool.not_false Bool.and_true Bool.true_and Option.getD_some Option.getD_none imp_self implies_true Int.toNat_natCast List.cons_append List.nil_append List.map_cons List.map_nil List.length_cons List.length_nil List.getD_cons_zero List.getD_cons_succ List.drop_zero List.drop_succ_cons List.take_succ_cons List.take_zero
attribute [local go_sem] lowN lowQ lowM isAl appOwn unw appF isE isO stpO notIn St.bare evO evDO isEff stp St.get St.slot St.put List.lookup un unL ofVal gof nth pickV pkB_false pkB_true binV unV loadV idxV fldV partV buildV fillV lenV sliV appV appR rowsV winV V.parts V.okp V.sc Mem.look_cons Mem.look_nil V.cl V.clL AObj.clo fzAll exps St.fz Mem.fz V.fz V.fzL AObj.fz Option.isSome_some Option.isSome_none Bool.or_true Bool.true_or Bool.or_false Bool.false_or false_and and_false false_or or_false arT_112 arT_22 arT_23 arT_27 arT_28 arT_29 arT_33 arT_52 arT_57 arT_65 arT_76 arT_77 arT_84 arT_88 arT_9 arT_95 boolT_133 boolT_29 boolT_3 boolT_36 boolT_4 boolT_70 boolT_92 flatT_133 flatT_29 flatT_3 flatT_36 flatT_4 flatT_70 flatT_92 intT_121 intT_142 intT_144 intT_145 intT_3 intT_5 lay_110 lay_145 lay_22 lay_23 lay_25 lay_27 lay_28 lay_29 lay_3 lay_31 lay_33 lay_35 lay_4 lay_42 lay_51 lay_56 lay_57 lay_59 lay_70 lay_73 lay_77 lay_79 lay_81 lay_83 lay_84 lay_85 lay_88 lay_92 lay_94 lay_95 okF_10 okF_100 okF_101 okF_102 okF_103 okF_104 okF_105 okF_11 okF_12 okF_122 okF_123 okF_124 okF_125 okF_126 okF_127 okF_13 okF_14 okF_15 okF_16 okF_17 okF_18 okF_19 okF_20 okF_21 okF_22 okF_23 okF_24 okF_25 okF_26 okF_27 okF_28 okF_29 okF_3 okF_30 okF_31 okF_32 okF_33 okF_34 okF_35 okF_36 okF_37 okF_38 okF_39 okF_4 okF_40 okF_41 okF_42 okF_43 okF_44 okF_45 okF_46 okF_47 okF_48 okF_49 okF_5 okF_50 okF_51 okF_52 okF_53 okF_54 okF_55 okF_56 okF_57 okF_58 okF_59 okF_6 okF_60 okF_61 okF_62 okF_63 okF_64 okF_65 okF_66 okF_67 okF_68 okF_69 okF_7 okF_70 okF_71 okF_72 okF_73 okF_74 okF_75 okF_76 okF_77 okF_78 okF_79 okF_8 okF_80 okF_81 okF_82 okF_83 okF_84 okF_85 okF_86 okF_87 okF_88 okF_89 okF_9 okF_90 okF_91 okF_92 okF_93 okF_94 okF_95 okF_96 okF_97 okF_98 okF_99 plT_31 plT_35 plT_51 plT_56 plT_59 plT_70 plT_73 plT_90 plT_92 plT_95 slT_112 slT_22 slT_23 slT_27 slT_28 slT_29 slT_33 slT_52 slT_57 slT_65 slT_76 slT_77 slT_88 slT_95 stT_25_0 stT_25_1 stT_25_2 stT_25_3 stT_25_4 stT_31_0 stT_31_1 stT_31_2 stT_31_3 stT_35_0 stT_35_1 stT_35_2 stT_35_3 stT_51_0 stT_51_1 stT_56_0 stT_56_1 stT_56_2 stT_56_3 stT_59_0 stT_59_1 stT_59_2 stT_73_0 stT_73_3 stT_73_4 stT_73_5 stT_79_0 stT_79_1 stT_79_2 stT_83_0 stT_90_0 stT_90_1 stT_90_2 stT_90_3 strT_76 strT_77 strT_84 strT_9 zeroT_112 zeroT_145 zeroT_3 zeroT_31 zeroT_33 zeroT_35 zeroT_42 zeroT_51 zeroT_56 zeroT_57 zeroT_59 zeroT_70 zeroT_73 zeroT_79 zeroT_83 zeroT_90 zeroT_92 zeroT_95
attribute [local go_sem] List.getElem?_cons_zero List.getElem?_cons_succ List.zip_cons_cons List.zip_nil_left List.zip_nil_right Bool.false_and Bool.and_false List.length_append List.length_set List.length_replicate List.all_cons List.all_nil encI_length encI_getD encR_length encR_getD encRw encPg spl shp AObj.shp rowM isSt isRpS isRd csh AObj.csh forall_const imp_self
attribute [local go_sem] encHr encOf encSp encP2 encSps_length encOfs_length encP2s_length encSps_getD encOfs_getD encP2s_getD
attribute [local simp] encI_length encR_length cellsI_length encSps_length encOfs_length encP2s_length
section
attribute [local go_sem] cellsI_length
theorem k12 (h : Hr) (hr : h.rooms.length ≤ maxLen) (ho : h.offers.length ≤ maxLen) (ha : h.apart.length ≤ maxLen) (hm : h.must.length ≤ maxLen) (s : Int) : CallsA Tryd.prog 12 [.agg (encHr h), .int .i64 s] (.bool (keepsH h s)) := by
  have hq : True := trivial
  refine callsA_of_tr Tryd.func12 rfl (Nat.le_of_ble_eq_true rfl) ?_
  simp only [Tryd.results12, envOf, Nat.reduceAdd]
  refine tr_seq fun K1 hK1 => ?_
  refine tr_region [1, 2] rfl rfl fun K hK => ?_
  iterate 2 refine evR_p ?_
  refine evR_e hK ?_; clear hK K
  refine hK1 _ ?_
  refine tr_seq fun K2 hK2 => ?_
  refine tr_seq fun K3 hK3 => ?_
  refine tr_region [1, 2, 16] rfl rfl fun K hK => ?_
  refine evR_p ?_
  refine evR_c (hc := (k19 h hr ho ha hm)) (k := ?_)
  iterate 2 refine evR_p ?_
  iterate 2 refine evR_g ?_
  refine evR_gch (hc := fun hgt => (k29 h s (validH_all (by simpa using hgt)).ol)) (k := ?_)
  refine evR_g ?_
  refine evR_p ?_
  refine evR_e hK ?_; clear hK K
  refine hK3 _ ?_
  refine tr_condB (fun ht1 => ?_) (fun ht1 => ?_)
  · skip
    (first | (have hkv := keeps_no ht1; skip) | (obtain ⟨hvl, hch⟩ := keeps_yes ht1; have hV := validH_all hvl; have htl := tal_length h s h.offers.length; have hct := cellsI_take (tal h s h.offers.length) 24 htl; have hcd := fun (i : Nat) (hi : i < 4) => kcond h hV _ htl i hi; have hok := fun (i : Nat) (hi : i < 4) => okCond i hi; have hcl := cellsI_cl (tal h s h.offers.length); replace hq := And.intro hq (And.intro htl (And.intro hct hcl))) | skip)
    refine tr_seq fun K4 hK4 => ?_
    refine tr_region [4] rfl rfl fun K hK => ?_
    refine evR_p ?_
    refine evR_e hK ?_; clear hK K
    refine hK4 _ ?_
    refine tr_ret ?_
    (try simp only [thenE, inBlkE])
    simp (maxSteps := 4000000) (disch := first | assumption | omega | (simp only [go_sem, *]; done) | (simp only [go_sem, *]; omega)) only [postA, postO, resV1, fzAll, go_sem, hq, Int.reduceToNat, Nat.reduceBEq, Nat.reduceEqDiff, Nat.reduceAdd, Nat.reduceMul, Nat.reduceLeDiff, Nat.reduceLT, Nat.reduceSub, ↓reduceIte, reduceCtorEq]
    all_goals (first | (rw [hkv]; done) | (rw [keeps_t hvl hch (allTo_no hil (by simpa using ht3))]; done) | (rw [keeps_t hvl hch (allTo_iff.2 hpi)]; done))
  · skip
    (first | (have hkv := keeps_no ht1; skip) | (obtain ⟨hvl, hch⟩ := keeps_yes ht1; have hV := validH_all hvl; have htl := tal_length h s h.offers.length; have hct := cellsI_take (tal h s h.offers.length) 24 htl; have hcd := fun (i : Nat) (hi : i < 4) => kcond h hV _ htl i hi; have hok := fun (i : Nat) (hi : i < 4) => okCond i hi; have hcl := cellsI_cl (tal h s h.offers.length); replace hq := And.intro hq (And.intro htl (And.intro hct hcl))) | skip)
    refine tr_skip ?_
    (try simp only [thenE, inBlkE])
    refine hK2 _ ?_
    refine tr_seq fun K5 hK5 => ?_
    refine tr_region [2, 5] rfl rfl fun K hK => ?_
    iterate 2 refine evR_p ?_
    refine evR_c (hc := (k30 h s hV)) (k := ?_)
    iterate 2 refine evR_p ?_
    refine evR_e hK ?_; clear hK K
    refine hK5 _ ?_
    refine tr_seq fun K6 hK6 => ?_
    refine tr_seq fun K7 hK7 => ?_
    refine tr_region [2, 5, 20, 21] rfl rfl fun K hK => ?_
    iterate 2 refine evR_p ?_
    refine evR_e hK ?_; clear hK K
    refine hK7 _ ?_
    refine tr_block ?_
    -- loop 1: live [2, 5, 20, 21]
    refine tr_loopW (fun m σ => ∃ i : Nat, i + m = 4 ∧ (∀ j, j < i → condB h (tal h s h.offers.length) j = true) ∧ σ = ⟨[(2, .ptr 0 0), (5, .ptr 1 0), (20, .agg [.fn 122 [], .fn 124 [], .fn 125 [], .fn 126 []]), (21, .int .i64 (i : Nat))], [(1, .cells (cellsI (tal h s h.offers.length))), (0, .cells (encHr h))], 2⟩) (4) ?_ ?_
    · exact ⟨_, Wk.refl _, 0, by omega, (by intro j hj; omega), (by rw [show List.drop 24 (cellsI (List.replicate 24 0)) = [] from rfl, List.append_nil]; rfl)⟩
    · rintro m σ ⟨i, hi, hpi, rfl⟩ KL1 hKL1
      refine tr_seq fun K8 hK8 => ?_
      refine tr_region [2, 5, 20, 21, 22] rfl rfl fun K hK => ?_
      refine evR_p ?_
      refine evR_e hK ?_; clear hK K
      refine hK8 _ ?_
      refine tr_seq fun K9 hK9 => ?_
      refine tr_condB (fun ht2 => ?_) (fun ht2 => ?_)
      · skip
        (first | (have hkv := keeps_no ht1; skip) | (obtain ⟨hvl, hch⟩ := keeps_yes ht1; have hV := validH_all hvl; have htl := tal_length h s h.offers.length; have hct := cellsI_take (tal h s h.offers.length) 24 htl; have hcd := fun (i : Nat) (hi : i < 4) => kcond h hV _ htl i hi; have hok := fun (i : Nat) (hi : i < 4) => okCond i hi; have hcl := cellsI_cl (tal h s h.offers.length); replace hq := And.intro hq (And.intro htl (And.intro hct hcl))) | skip)
        have hil : i < 4 := by omega
        have hcf := condF_at hil
        have hki := hok i hil
        replace hq := And.intro hq (And.intro hil (And.intro hcf (hki)))
        refine tr_skip ?_
        (try simp only [thenE, inBlkE])
        refine hK9 _ ?_
        refine tr_seq fun K10 hK10 => ?_
        refine tr_block ?_
        refine tr_seq fun K11 hK11 => ?_
        refine tr_region [2, 5, 7, 20, 21] rfl rfl fun K hK => ?_
        iterate 3 refine evR_p ?_
        refine evR_e hK ?_; clear hK K
        refine hK11 _ ?_
        refine tr_seq fun K12 hK12 => ?_
        refine tr_region [2, 5, 20, 21, 29] rfl rfl fun K hK => ?_
        iterate 4 refine evR_p ?_
        refine evR_c (hc := (hcd i hil)) (k := ?_)
        refine evR_p ?_
        refine evR_e hK ?_; clear hK K
        refine hK12 _ ?_
        refine tr_condB (fun ht3 => ?_) (fun ht3 => ?_)
        · skip
          (first | (have hkv := keeps_no ht1; skip) | (obtain ⟨hvl, hch⟩ := keeps_yes ht1; have hV := validH_all hvl; have htl := tal_length h s h.offers.length; have hct := cellsI_take (tal h s h.offers.length) 24 htl; have hcd := fun (i : Nat) (hi : i < 4) => kcond h hV _ htl i hi; have hok := fun (i : Nat) (hi : i < 4) => okCond i hi; have hcl := cellsI_cl (tal h s h.offers.length); replace hq := And.intro hq (And.intro htl (And.intro hct hcl))) | skip)
          refine tr_seq fun K13 hK13 => ?_
          refine tr_region [4] rfl rfl fun K hK => ?_
          refine evR_p ?_
          refine evR_e hK ?_; clear hK K
          refine hK13 _ ?_
          refine tr_ret ?_
          (try simp only [thenE, inBlkE])
          simp (maxSteps := 4000000) (disch := first | assumption | omega | (simp only [go_sem, *]; done) | (simp only [go_sem, *]; omega)) only [postA, postO, resV1, fzAll, go_sem, hq, Int.reduceToNat, Nat.reduceBEq, Nat.reduceEqDiff, Nat.reduceAdd, Nat.reduceMul, Nat.reduceLeDiff, Nat.reduceLT, Nat.reduceSub, ↓reduceIte, reduceCtorEq]
          all_goals (first | (rw [hkv]; done) | (rw [keeps_t hvl hch (allTo_no hil (by simpa using ht3))]; done) | (rw [keeps_t hvl hch (allTo_iff.2 hpi)]; done))
        · skip
          (first | (have hkv := keeps_no ht1; skip) | (obtain ⟨hvl, hch⟩ := keeps_yes ht1; have hV := validH_all hvl; have htl := tal_length h s h.offers.length; have hct := cellsI_take (tal h s h.offers.length) 24 htl; have hcd := fun (i : Nat) (hi : i < 4) => kcond h hV _ htl i hi; have hok := fun (i : Nat) (hi : i < 4) => okCond i hi; have hcl := cellsI_cl (tal h s h.offers.length); replace hq := And.intro hq (And.intro htl (And.intro hct hcl))) | skip)
          refine tr_skip ?_
          (try simp only [thenE, inBlkE])
          refine hK10 _ ?_
          refine tr_region [2, 5, 20, 21] rfl rfl fun K hK => ?_
          iterate 2 refine evR_p ?_
          refine evR_e hK ?_; clear hK K
          refine hKL1 _ ?_
          exact ⟨m - 1, _, by omega, Wk.cut 2 (by simp [St.cutOK, AObj.upto, V.upto, V.uptoL, cellsI_uptoL, List.all_cons, List.all_nil, List.filter_cons, List.filter_nil, Nat.blt_eq, Nat.reduceLT, Nat.lt_irrefl, decide_true, decide_false, Bool.and_self, Bool.and_true, Bool.true_and, if_true, if_false, ↓reduceIte, Bool.false_eq_true, encHr, encP2]), i + 1, by omega, all_step hpi (by simpa using ht3), by rw [w64 (x := (i : Int) + 1) (by omega)]; rfl⟩
      · skip
        (first | (have hkv := keeps_no ht1; skip) | (obtain ⟨hvl, hch⟩ := keeps_yes ht1; have hV := validH_all hvl; have htl := tal_length h s h.offers.length; have hct := cellsI_take (tal h s h.offers.length) 24 htl; have hcd := fun (i : Nat) (hi : i < 4) => kcond h hV _ htl i hi; have hok := fun (i : Nat) (hi : i < 4) => okCond i hi; have hcl := cellsI_cl (tal h s h.offers.length); replace hq := And.intro hq (And.intro htl (And.intro hct hcl))) | skip)
        have hil : i = 4 := by omega
        subst hil
        refine tr_exit ?_
        simp only [thenE, inBlkE, Nat.reduceEqDiff, ↓reduceIte]
        refine hK6 _ ?_
        refine tr_seq fun K14 hK14 => ?_
        refine tr_region [4] rfl rfl fun K hK => ?_
        refine evR_p ?_
        refine evR_e hK ?_; clear hK K
        refine hK14 _ ?_
        refine tr_ret ?_
        (try simp only [thenE, inBlkE])
        simp (maxSteps := 4000000) (disch := first | assumption | omega | (simp only [go_sem, *]; done) | (simp only [go_sem, *]; omega)) only [postA, postO, resV1, fzAll, go_sem, hq, Int.reduceToNat, Nat.reduceBEq, Nat.reduceEqDiff, Nat.reduceAdd, Nat.reduceMul, Nat.reduceLeDiff, Nat.reduceLT, Nat.reduceSub, ↓reduceIte, reduceCtorEq]
        all_goals (first | (rw [hkv]; done) | (rw [keeps_t hvl hch (allTo_no hil (by simpa using ht3))]; done) | (rw [keeps_t hvl hch (allTo_iff.2 hpi)]; done))
end

end Go.Proofs.YtaaongcfeldcoaaDoor


namespace Go.Proofs.YtaaongcfeldcoaaDoor
open Go.RowKit
set_option linter.unusedVariables false
set_option linter.unusedSimpArgs false
set_option maxRecDepth 100000
attribute [local go_sem] Nat.zero_add Nat.add_zero Nat.mul_one eq_self ne_eq not_true_eq_false not_false_eq_true decide_true decide_false decide_not Bool.false_eq_true List.filter_cons List.filter_nil true_and and_true beq_false beq_true Bool.not_true Bool.not_false Bool.and_true Bool.true_and Option.getD_some Option.getD_none imp_self implies_true Int.toNat_natCast List.cons_append List.nil_append List.map_cons List.map_nil List.length_cons List.length_nil List.getD_cons_zero List.getD_cons_succ List.drop_zero List.drop_succ_cons List.take_succ_cons List.take_zero
attribute [local go_sem] lowN lowQ lowM isAl appOwn unw appF isE isO stpO notIn St.bare evO evDO isEff stp St.get St.slot St.put List.lookup un unL ofVal gof nth pickV pkB_false pkB_true binV unV loadV idxV fldV partV buildV fillV lenV sliV appV appR rowsV winV V.parts V.okp V.sc Mem.look_cons Mem.look_nil V.cl V.clL AObj.clo fzAll exps St.fz Mem.fz V.fz V.fzL AObj.fz Option.isSome_some Option.isSome_none Bool.or_true Bool.true_or Bool.or_false Bool.false_or false_and and_false false_or or_false arT_112 arT_22 arT_23 arT_27 arT_28 arT_29 arT_33 arT_52 arT_57 arT_65 arT_76 arT_77 arT_84 arT_88 arT_9 arT_95 boolT_133 boolT_29 boolT_3 boolT_36 boolT_4 boolT_70 boolT_92 flatT_133 flatT_29 flatT_3 flatT_36 flatT_4 flatT_70 flatT_92 intT_121 intT_142 intT_144 intT_145 intT_3 intT_5 lay_110 lay_145 lay_22 lay_23 lay_25 lay_27 lay_28 lay_29 lay_3 lay_31 lay_33 lay_35 lay_4 lay_42 lay_51 lay_56 lay_57 lay_59 lay_70 lay_73 lay_77 lay_79 lay_81 lay_83 lay_84 lay_85 lay_88 lay_92 lay_94 lay_95 okF_10 okF_100 okF_101 okF_102 okF_103 okF_104 okF_105 okF_11 okF_12 okF_122 okF_123 okF_124 okF_125 okF_126 okF_127 okF_13 okF_14 okF_15 okF_16 okF_17 okF_18 okF_19 okF_20 okF_21 okF_22 okF_23 okF_24 okF_25 okF_26 okF_27 okF_28 okF_29 okF_3 okF_30 okF_31 okF_32 okF_33 okF_34 okF_35 okF_36 okF_37 okF_38 okF_39 okF_4 okF_40 okF_41 okF_42 okF_43 okF_44 okF_45 okF_46 okF_47 okF_48 okF_49 okF_5 okF_50 okF_51 okF_52 okF_53 okF_54 okF_55 okF_56 okF_57 okF_58 okF_59 okF_6 okF_60 okF_61 okF_62 okF_63 okF_64 okF_65 okF_66 okF_67 okF_68 okF_69 okF_7 okF_70 okF_71 okF_72 okF_73 okF_74 okF_75 okF_76 okF_77 okF_78 okF_79 okF_8 okF_80 okF_81 okF_82 okF_83 okF_84 okF_85 okF_86 okF_87 okF_88 okF_89 okF_9 okF_90 okF_91 okF_92 okF_93 okF_94 okF_95 okF_96 okF_97 okF_98 okF_99 plT_31 plT_35 plT_51 plT_56 plT_59 plT_70 plT_73 plT_90 plT_92 plT_95 slT_112 slT_22 slT_23 slT_27 slT_28 slT_29 slT_33 slT_52 slT_57 slT_65 slT_76 slT_77 slT_88 slT_95 stT_25_0 stT_25_1 stT_25_2 stT_25_3 stT_25_4 stT_31_0 stT_31_1 stT_31_2 stT_31_3 stT_35_0 stT_35_1 stT_35_2 stT_35_3 stT_51_0 stT_51_1 stT_56_0 stT_56_1 stT_56_2 stT_56_3 stT_59_0 stT_59_1 stT_59_2 stT_73_0 stT_73_3 stT_73_4 stT_73_5 stT_79_0 stT_79_1 stT_79_2 stT_83_0 stT_90_0 stT_90_1 stT_90_2 stT_90_3 strT_76 strT_77 strT_84 strT_9 zeroT_112 zeroT_145 zeroT_3 zeroT_31 zeroT_33 zeroT_35 zeroT_42 zeroT_51 zeroT_56 zeroT_57 zeroT_59 zeroT_70 zeroT_73 zeroT_79 zeroT_83 zeroT_90 zeroT_92 zeroT_95
attribute [local go_sem] List.getElem?_cons_zero List.getElem?_cons_succ List.zip_cons_cons List.zip_nil_left List.zip_nil_right Bool.false_and Bool.and_false List.length_append List.length_set List.length_replicate List.all_cons List.all_nil encI_length encI_getD encR_length encR_getD encRw encPg spl shp AObj.shp rowM isSt isRpS isRd csh AObj.csh forall_const imp_self
attribute [local go_sem] encHr encOf encSp encP2 encSps_length encOfs_length encP2s_length encSps_getD encOfs_getD encP2s_getD
attribute [local simp] encI_length encR_length cellsI_length encSps_length encOfs_length encP2s_length
section
attribute [local go_sem] cellsI_length cellsI_getD cellsI_dropD
theorem k17 (h : Hr) (hr : h.rooms.length ≤ maxLen) (ho : h.offers.length ≤ maxLen) (ha : h.apart.length ≤ maxLen) (hm : h.must.length ≤ maxLen) (s : Int) : CallsA Tryd.prog 17 [.agg (encHr h), .int .i64 s] (.tup (keptV h s)) := by
  have hq : True := trivial
  refine callsA_of_tr Tryd.func17 rfl (Nat.le_of_ble_eq_true rfl) ?_
  simp only [Tryd.results17, envOf, Nat.reduceAdd]
  refine tr_seq fun K1 hK1 => ?_
  refine tr_region [1, 2] rfl rfl fun K hK => ?_
  iterate 3 refine evR_p ?_
  refine evR_e hK ?_; clear hK K
  refine hK1 _ ?_
  refine tr_seq fun K2 hK2 => ?_
  refine tr_seq fun K3 hK3 => ?_
  refine tr_region [1, 2, 17] rfl rfl fun K hK => ?_
  refine evR_p ?_
  refine evR_c (hc := (k19 h hr ho ha hm)) (k := ?_)
  iterate 2 refine evR_p ?_
  iterate 2 refine evR_g ?_
  refine evR_gch (hc := fun hgt => (k29 h s (validH_all (by simpa using hgt)).ol)) (k := ?_)
  refine evR_g ?_
  refine evR_p ?_
  refine evR_e hK ?_; clear hK K
  refine hK3 _ ?_
  refine tr_condB (fun ht1 => ?_) (fun ht1 => ?_)
  · skip
    (first | (have hkv : keptV h s = [.nsl, .int .i64 250] := kept_no ht1; skip) | (obtain ⟨hvl, hch⟩ := keeps_yes ht1; have hV := validH_all hvl; have htl := tal_length h s h.offers.length; have hct : List.take 12 (cellsI (tal h s h.offers.length)) = cellsI ((tal h s h.offers.length).take 12) := (cellsI_take2 _ 12); have htl2 : ((tal h s h.offers.length).take 12).length = 12 := (by simp [htl]); replace hq := And.intro hq (And.intro htl (And.intro hct htl2))) | skip)
    refine tr_seq fun K4 hK4 => ?_
    refine tr_region [4, 5] rfl rfl fun K hK => ?_
    iterate 2 refine evR_p ?_
    refine evR_e hK ?_; clear hK K
    refine hK4 _ ?_
    refine tr_ret ?_
    (try simp only [thenE, inBlkE])
    simp (maxSteps := 4000000) (disch := first | assumption | omega | (simp only [go_sem, *]; done) | (simp only [go_sem, *]; omega)) only [postA, postO, resV1, fzAll, go_sem, hq, Int.reduceToNat, Nat.reduceBEq, Nat.reduceEqDiff, Nat.reduceAdd, Nat.reduceMul, Nat.reduceLeDiff, Nat.reduceLT, Nat.reduceSub, ↓reduceIte, reduceCtorEq]
    all_goals (first | (rw [hkv]; done) | (rw [kept_t hvl hch]; done))
  · skip
    (first | (have hkv : keptV h s = [.nsl, .int .i64 250] := kept_no ht1; skip) | (obtain ⟨hvl, hch⟩ := keeps_yes ht1; have hV := validH_all hvl; have htl := tal_length h s h.offers.length; have hct : List.take 12 (cellsI (tal h s h.offers.length)) = cellsI ((tal h s h.offers.length).take 12) := (cellsI_take2 _ 12); have htl2 : ((tal h s h.offers.length).take 12).length = 12 := (by simp [htl]); replace hq := And.intro hq (And.intro htl (And.intro hct htl2))) | skip)
    refine tr_skip ?_
    (try simp only [thenE, inBlkE])
    refine hK2 _ ?_
    refine tr_seq fun K5 hK5 => ?_
    refine tr_region [1, 2, 6] rfl rfl fun K hK => ?_
    refine evR_p ?_
    refine evR_e hK ?_; clear hK K
    refine hK5 _ ?_
    refine tr_seq fun K6 hK6 => ?_
    refine tr_seq fun K7 hK7 => ?_
    refine tr_region [6, 21, 22] rfl rfl fun K hK => ?_
    iterate 2 refine evR_p ?_
    refine evR_c (hc := (k30 h s hV)) (k := ?_)
    iterate 2 refine evR_p ?_
    refine evR_e hK ?_; clear hK K
    refine hK7 _ ?_
    refine tr_block ?_
    -- loop 1: live [6, 21, 22]
    refine tr_loopW (fun m σ => ∃ i : Nat, i + m = 12 ∧ σ = ⟨[(6, .own 1), (21, .agg (cellsI ((tal h s h.offers.length).take 12))), (22, .int .i64 (i : Nat))], [(1, .row 3 1 (encI (keptW h s i))), (0, .cells (encHr h))], 2⟩) (12) ?_ ?_
    · exact ⟨_, Wk.nilslot 3 1 6 rfl, 0, by omega, rfl⟩
    · rintro m σ ⟨i, hi, rfl⟩ KL1 hKL1
      refine tr_seq fun K8 hK8 => ?_
      refine tr_region [6, 21, 22, 23] rfl rfl fun K hK => ?_
      refine evR_p ?_
      refine evR_e hK ?_; clear hK K
      refine hK8 _ ?_
      refine tr_seq fun K9 hK9 => ?_
      refine tr_condB (fun ht2 => ?_) (fun ht2 => ?_)
      · skip
        (first | (have hkv : keptV h s = [.nsl, .int .i64 250] := kept_no ht1; skip) | (obtain ⟨hvl, hch⟩ := keeps_yes ht1; have hV := validH_all hvl; have htl := tal_length h s h.offers.length; have hct : List.take 12 (cellsI (tal h s h.offers.length)) = cellsI ((tal h s h.offers.length).take 12) := (cellsI_take2 _ 12); have htl2 : ((tal h s h.offers.length).take 12).length = 12 := (by simp [htl]); replace hq := And.intro hq (And.intro htl (And.intro hct htl2))) | skip)
        have hil : i < 12 := by omega
        have hgk : ((tal h s h.offers.length).take 12).getD i 0 = (tal h s h.offers.length).getD i 0 := by simp [List.getD, List.getElem?_take, hil]
        have hkl := keptW_len h s i
        replace hq := And.intro hq (And.intro hil (hgk))
        refine tr_skip ?_
        (try simp only [thenE, inBlkE])
        refine hK9 _ ?_
        refine tr_seq fun K10 hK10 => ?_
        refine tr_block ?_
        refine tr_seq fun K11 hK11 => ?_
        refine tr_region [6, 7, 8, 21, 22] rfl rfl fun K hK => ?_
        iterate 4 refine evR_p ?_
        refine evR_e hK ?_; clear hK K
        refine hK11 _ ?_
        refine tr_seq fun K12 hK12 => ?_
        refine tr_region [6, 7, 21, 22, 27] rfl rfl fun K hK => ?_
        iterate 2 refine evR_p ?_
        refine evR_e hK ?_; clear hK K
        refine hK12 _ ?_
        refine tr_condB (fun ht3 => ?_) (fun ht3 => ?_)
        · skip
          (first | (have hkv : keptV h s = [.nsl, .int .i64 250] := kept_no ht1; skip) | (obtain ⟨hvl, hch⟩ := keeps_yes ht1; have hV := validH_all hvl; have htl := tal_length h s h.offers.length; have hct : List.take 12 (cellsI (tal h s h.offers.length)) = cellsI ((tal h s h.offers.length).take 12) := (cellsI_take2 _ 12); have htl2 : ((tal h s h.offers.length).take 12).length = 12 := (by simp [htl]); replace hq := And.intro hq (And.intro htl (And.intro hct htl2))) | skip)
          refine tr_region [6, 21, 22] rfl rfl fun K hK => ?_
          iterate 2 refine evR_p ?_
          refine evR_bs ?_
          iterate 2 refine evR_p ?_
          refine evR_e hK ?_; clear hK K
          refine hK10 _ ?_
          refine tr_region [6, 21, 22] rfl rfl fun K hK => ?_
          iterate 2 refine evR_p ?_
          refine evR_e hK ?_; clear hK K
          refine hKL1 _ ?_
          first | exact ⟨m - 1, _, by omega, (Wk.trans (Wk.ren 2 1 (Nat.le_of_ble_eq_true rfl) (Nat.le_of_ble_eq_true rfl) (by simp [St.noSt, St.ren, St.cutOK, St.cut, AObj.no, AObj.upto, AObj.ren, V.no, V.upto, V.ren, V.noL, V.uptoL, V.renL, cellsI_noL, cellsI_uptoL, cellsI_renL, encHr])) (Wk.cut 2 (by simp [St.noSt, St.ren, St.cutOK, St.cut, AObj.no, AObj.upto, AObj.ren, V.no, V.upto, V.ren, V.noL, V.uptoL, V.renL, cellsI_noL, cellsI_uptoL, cellsI_renL, encHr]))), i + 1, by omega, by (rw [w64 (x := (i : Int) + 1) (by omega), keptW_t ht3, encI_snoc]; simp [St.noSt, St.ren, St.cutOK, St.cut, AObj.no, AObj.upto, AObj.ren, V.no, V.upto, V.ren, V.noL, V.uptoL, V.renL, cellsI_noL, cellsI_uptoL, cellsI_renL, encHr])⟩ | exact ⟨m - 1, _, by omega, Wk.cut 2 (by simp [St.cutOK, AObj.upto, V.upto, V.uptoL, cellsI_uptoL, List.all_cons, List.all_nil, List.filter_cons, List.filter_nil, Nat.blt_eq, Nat.reduceLT, Nat.lt_irrefl, decide_true, decide_false, Bool.and_self, Bool.and_true, Bool.true_and, if_true, if_false, ↓reduceIte, Bool.false_eq_true, encHr, encP2]), i + 1, by omega, by rw [w64 (x := (i : Int) + 1) (by omega), keptW_f ht3]; rfl⟩
        · skip
          (first | (have hkv : keptV h s = [.nsl, .int .i64 250] := kept_no ht1; skip) | (obtain ⟨hvl, hch⟩ := keeps_yes ht1; have hV := validH_all hvl; have htl := tal_length h s h.offers.length; have hct : List.take 12 (cellsI (tal h s h.offers.length)) = cellsI ((tal h s h.offers.length).take 12) := (cellsI_take2 _ 12); have htl2 : ((tal h s h.offers.length).take 12).length = 12 := (by simp [htl]); replace hq := And.intro hq (And.intro htl (And.intro hct htl2))) | skip)
          refine tr_skip ?_
          (try simp only [thenE, inBlkE])
          refine hK10 _ ?_
          refine tr_region [6, 21, 22] rfl rfl fun K hK => ?_
          iterate 2 refine evR_p ?_
          refine evR_e hK ?_; clear hK K
          refine hKL1 _ ?_
          first | exact ⟨m - 1, _, by omega, (Wk.trans (Wk.ren 2 1 (Nat.le_of_ble_eq_true rfl) (Nat.le_of_ble_eq_true rfl) (by simp [St.noSt, St.ren, St.cutOK, St.cut, AObj.no, AObj.upto, AObj.ren, V.no, V.upto, V.ren, V.noL, V.uptoL, V.renL, cellsI_noL, cellsI_uptoL, cellsI_renL, encHr])) (Wk.cut 2 (by simp [St.noSt, St.ren, St.cutOK, St.cut, AObj.no, AObj.upto, AObj.ren, V.no, V.upto, V.ren, V.noL, V.uptoL, V.renL, cellsI_noL, cellsI_uptoL, cellsI_renL, encHr]))), i + 1, by omega, by (rw [w64 (x := (i : Int) + 1) (by omega), keptW_t ht3, encI_snoc]; simp [St.noSt, St.ren, St.cutOK, St.cut, AObj.no, AObj.upto, AObj.ren, V.no, V.upto, V.ren, V.noL, V.uptoL, V.renL, cellsI_noL, cellsI_uptoL, cellsI_renL, encHr])⟩ | exact ⟨m - 1, _, by omega, Wk.cut 2 (by simp [St.cutOK, AObj.upto, V.upto, V.uptoL, cellsI_uptoL, List.all_cons, List.all_nil, List.filter_cons, List.filter_nil, Nat.blt_eq, Nat.reduceLT, Nat.lt_irrefl, decide_true, decide_false, Bool.and_self, Bool.and_true, Bool.true_and, if_true, if_false, ↓reduceIte, Bool.false_eq_true, encHr, encP2]), i + 1, by omega, by rw [w64 (x := (i : Int) + 1) (by omega), keptW_f ht3]; rfl⟩
      · skip
        (first | (have hkv : keptV h s = [.nsl, .int .i64 250] := kept_no ht1; skip) | (obtain ⟨hvl, hch⟩ := keeps_yes ht1; have hV := validH_all hvl; have htl := tal_length h s h.offers.length; have hct : List.take 12 (cellsI (tal h s h.offers.length)) = cellsI ((tal h s h.offers.length).take 12) := (cellsI_take2 _ 12); have htl2 : ((tal h s h.offers.length).take 12).length = 12 := (by simp [htl]); replace hq := And.intro hq (And.intro htl (And.intro hct htl2))) | skip)
        have hil : i = 12 := by omega
        subst hil
        refine tr_exit ?_
        simp only [thenE, inBlkE, Nat.reduceEqDiff, ↓reduceIte]
        refine hK6 _ ?_
        refine tr_seq fun K13 hK13 => ?_
        refine tr_region [4, 5] rfl rfl fun K hK => ?_
        iterate 3 refine evR_p ?_
        refine evR_e hK ?_; clear hK K
        refine hK13 _ ?_
        refine tr_ret ?_
        (try simp only [thenE, inBlkE])
        simp (maxSteps := 4000000) (disch := first | assumption | omega | (simp only [go_sem, *]; done) | (simp only [go_sem, *]; omega)) only [postA, postO, resV1, fzAll, go_sem, hq, Int.reduceToNat, Nat.reduceBEq, Nat.reduceEqDiff, Nat.reduceAdd, Nat.reduceMul, Nat.reduceLeDiff, Nat.reduceLT, Nat.reduceSub, ↓reduceIte, reduceCtorEq]
        all_goals (first | (rw [hkv]; done) | (rw [kept_t hvl hch]; done))
end

section
attribute [local go_sem] encT_length
set_option maxHeartbeats 2000000 in
theorem k24 (h : Hr) (hr : h.rooms.length ≤ maxLen) (ho : h.offers.length ≤ maxLen) (ha : h.apart.length ≤ maxLen) (hm : h.must.length ≤ maxLen) (s : Int) : CallsA Tryd.prog 24 [.agg (encHr h), .int .i64 s] (.tup (plcV h s)) := by
  have hq : True := trivial
  refine callsA_of_tr Tryd.func24 rfl (Nat.le_of_ble_eq_true rfl) ?_
  simp only [Tryd.results24, envOf, Nat.reduceAdd]
  refine tr_seq fun K1 hK1 => ?_
  refine tr_region [1, 2] rfl rfl fun K hK => ?_
  iterate 3 refine evR_p ?_
  refine evR_e hK ?_; clear hK K
  refine hK1 _ ?_
  refine tr_seq fun K2 hK2 => ?_
  refine tr_seq fun K3 hK3 => ?_
  refine tr_region [1, 2, 15] rfl rfl fun K hK => ?_
  iterate 2 refine evR_p ?_
  refine evR_c (hc := (k12 h hr ho ha hm s)) (k := ?_)
  refine evR_p ?_
  refine evR_e hK ?_; clear hK K
  refine hK3 _ ?_
  refine tr_condB (fun ht1 => ?_) (fun ht1 => ?_)
  · skip
    (first | (have hkv : plcV h s = [.nsl, .int .i64 250] := (by unfold plcV; rw [ht1]; rfl)) | (have hk : keepsH h s = true := ht1; have hvl := keeps_valid hk; have hV := validH_all hvl; have hol := hV.ol; have hrl := hV.rl) | skip)
    refine tr_seq fun K4 hK4 => ?_
    refine tr_region [4, 5] rfl rfl fun K hK => ?_
    iterate 2 refine evR_p ?_
    refine evR_e hK ?_; clear hK K
    refine hK4 _ ?_
    refine tr_ret ?_
    (try simp only [thenE, inBlkE])
    simp (maxSteps := 4000000) (disch := first | assumption | omega | (simp only [go_sem, *]; done) | (simp only [go_sem, *]; omega)) only [postA, postO, resV1, fzAll, go_sem, hq, Int.reduceToNat, Nat.reduceBEq, Nat.reduceEqDiff, Nat.reduceAdd, Nat.reduceMul, Nat.reduceLeDiff, Nat.reduceLT, Nat.reduceSub, ↓reduceIte, reduceCtorEq]
    all_goals (first | (rw [hkv]; done) | (rw [plcV, hk]; rfl))
  · skip
    (first | (have hkv : plcV h s = [.nsl, .int .i64 250] := (by unfold plcV; rw [ht1]; rfl)) | (have hk : keepsH h s = true := ht1; have hvl := keeps_valid hk; have hV := validH_all hvl; have hol := hV.ol; have hrl := hV.rl) | skip)
    refine tr_skip ?_
    (try simp only [thenE, inBlkE])
    refine hK2 _ ?_
    refine tr_seq fun K5 hK5 => ?_
    refine tr_region [1, 2, 6] rfl rfl fun K hK => ?_
    refine evR_p ?_
    refine evR_e hK ?_; clear hK K
    refine hK5 _ ?_
    refine tr_seq fun K6 hK6 => ?_
    refine tr_seq fun K7 hK7 => ?_
    refine tr_region [1, 2, 6, 17, 18, 19] rfl rfl fun K hK => ?_
    iterate 4 refine evR_p ?_
    refine evR_e hK ?_; clear hK K
    refine hK7 _ ?_
    refine tr_block ?_
    -- loop 1: live [1, 2, 6, 17, 18, 19]
    refine tr_loopW (fun m σ => ∃ k : Nat, k + m = h.rooms.length ∧ σ = ⟨[(1, .int .i64 s), (2, .ptr 0 0), (6, .own 1), (17, .sl 2 (encSps h.rooms)), (18, .int .i64 h.rooms.length), (19, .int .i64 (k : Nat))], [(1, .row 70 3 (encT (plcW h s k))), (0, .cells (encHr h))], 2⟩) (h.rooms.length) ?_ ?_
    · exact ⟨_, Wk.nilslot 70 3 6 rfl, 0, by omega, rfl⟩
    · rintro m σ ⟨k, hk2, rfl⟩ KL1 hKL1
      refine tr_seq fun K8 hK8 => ?_
      refine tr_region [1, 2, 6, 17, 18, 19, 20] rfl rfl fun K hK => ?_
      refine evR_p ?_
      refine evR_e hK ?_; clear hK K
      refine hK8 _ ?_
      refine tr_seq fun K9 hK9 => ?_
      refine tr_condB (fun ht2 => ?_) (fun ht2 => ?_)
      · skip
        (first | (have hkv : plcV h s = [.nsl, .int .i64 250] := (by unfold plcV; rw [ht1]; rfl)) | (have hk : keepsH h s = true := ht1; have hvl := keeps_valid hk; have hV := validH_all hvl; have hol := hV.ol; have hrl := hV.rl) | skip)
        have hkl : k < h.rooms.length := by omega
        have hpl := plcW_len h s k
        have hmm : k * h.offers.length ≤ 6 * 12 := Nat.mul_le_mul (by omega) hol
        replace hq := And.intro hq (hkl)
        refine tr_skip ?_
        (try simp only [thenE, inBlkE])
        refine hK9 _ ?_
        refine tr_seq fun K10 hK10 => ?_
        refine tr_block ?_
        refine tr_seq fun K11 hK11 => ?_
        refine tr_region [1, 2, 6, 7, 8, 17, 18, 19] rfl rfl fun K hK => ?_
        iterate 6 refine evR_p ?_
        refine evR_e hK ?_; clear hK K
        refine hK11 _ ?_
        refine tr_seq fun K12 hK12 => ?_
        refine tr_region [1, 2, 6, 7, 9, 17, 18, 19] rfl rfl fun K hK => ?_
        iterate 3 refine evR_p ?_
        refine evR_e hK ?_; clear hK K
        refine hK12 _ ?_
        refine tr_seq fun K13 hK13 => ?_
        refine tr_region [1, 2, 6, 7, 9, 17, 18, 19, 27, 28, 29] rfl rfl fun K hK => ?_
        iterate 4 refine evR_p ?_
        refine evR_e hK ?_; clear hK K
        refine hK13 _ ?_
        refine tr_block ?_
        -- loop 2: live [1, 2, 6, 7, 9, 17, 18, 19, 27, 28, 29]
        refine tr_loopW (fun m σ => ∃ i : Nat, i + m = h.offers.length ∧ σ = ⟨[(1, .int .i64 s), (2, .ptr 0 0), (6, .own 1), (7, .int .i64 (k : Nat)), (9, .int .i64 (plcT h s k (h.rooms.getD k sp0).fr i).1), (17, .sl 2 (encSps h.rooms)), (18, .int .i64 h.rooms.length), (19, .int .i64 (k : Nat)), (27, .sl 4 (encOfs h.offers)), (28, .int .i64 h.offers.length), (29, .int .i64 (i : Nat))], [(1, .row 70 3 (encT (plcW h s k ++ (plcT h s k (h.rooms.getD k sp0).fr i).2))), (0, .cells (encHr h))], 2⟩) (h.offers.length) ?_ ?_
        · exact ⟨_, Wk.cut 2 rfl, 0, by omega, by rw [show (plcT h s k (h.rooms.getD k sp0).fr 0).2 = [] from rfl, List.append_nil]; rfl⟩
        · rintro m2 σ ⟨i, hi, rfl⟩ KL2 hKL2
          refine tr_seq fun K14 hK14 => ?_
          refine tr_region [1, 2, 6, 7, 9, 17, 18, 19, 27, 28, 29, 30] rfl rfl fun K hK => ?_
          refine evR_p ?_
          refine evR_e hK ?_; clear hK K
          refine hK14 _ ?_
          refine tr_seq fun K15 hK15 => ?_
          refine tr_condB (fun ht3 => ?_) (fun ht3 => ?_)
          · skip
            (first | (have hkv : plcV h s = [.nsl, .int .i64 250] := (by unfold plcV; rw [ht1]; rfl)) | (have hk : keepsH h s = true := ht1; have hvl := keeps_valid hk; have hV := validH_all hvl; have hol := hV.ol; have hrl := hV.rl) | skip)
            have hil : i < h.offers.length := by omega
            have hpt := plcT_len h s k (h.rooms.getD k sp0).fr i
            replace hq := And.intro hq (hil)
            refine tr_skip ?_
            (try simp only [thenE, inBlkE])
            refine hK15 _ ?_
            refine tr_seq fun K16 hK16 => ?_
            refine tr_block ?_
            refine tr_seq fun K17 hK17 => ?_
            refine tr_region [1, 2, 6, 7, 9, 10, 11, 17, 18, 19, 27, 28, 29] rfl rfl fun K hK => ?_
            iterate 6 refine evR_p ?_
            refine evR_e hK ?_; clear hK K
            refine hK17 _ ?_
            refine tr_seq fun K18 hK18 => ?_
            refine tr_region [1, 2, 6, 7, 9, 11, 17, 18, 19, 27, 28, 29, 44] rfl rfl fun K hK => ?_
            iterate 5 refine evR_p ?_
            iterate 5 refine evR_g ?_
            refine evR_p ?_
            refine evR_e hK ?_; clear hK K
            refine hK18 _ ?_
            refine tr_condB (fun ht4 => ?_) (fun ht4 => ?_)
            · skip
              (first | (have hkv : plcV h s = [.nsl, .int .i64 250] := (by unfold plcV; rw [ht1]; rfl)) | (have hk : keepsH h s = true := ht1; have hvl := keeps_valid hk; have hV := validH_all hvl; have hol := hV.ol; have hrl := hV.rl) | skip)
              refine tr_seq fun K19 hK19 => ?_
              refine tr_region [1, 2, 6, 7, 9, 11, 17, 18, 19, 27, 28, 29] rfl rfl fun K hK => ?_
              iterate 10 refine evR_p ?_
              refine evR_bs ?_
              iterate 2 refine evR_p ?_
              refine evR_e hK ?_; clear hK K
              refine hK19 _ ?_
              refine tr_region [1, 2, 6, 7, 9, 17, 18, 19, 27, 28, 29] rfl rfl fun K hK => ?_
              iterate 5 refine evR_p ?_
              refine evR_e hK ?_; clear hK K
              refine hK16 _ ?_
              refine tr_region [1, 2, 6, 7, 9, 17, 18, 19, 27, 28, 29] rfl rfl fun K hK => ?_
              iterate 2 refine evR_p ?_
              refine evR_e hK ?_; clear hK K
              refine hKL2 _ ?_
              first | exact ⟨m2 - 1, _, by omega, (Wk.trans (Wk.ren 3 1 (Nat.le_of_ble_eq_true rfl) (Nat.le_of_ble_eq_true rfl) rfl) (Wk.cut 2 rfl)), i + 1, by omega, by rw [w64 (x := (i : Int) + 1) (by omega), plcT_t ht4.1 (show tkn s i = true from decide_eq_true ht4.2), ← List.append_assoc, encT_snoc]; rfl⟩ | exact ⟨m2 - 1, _, by omega, Wk.cut 2 rfl, i + 1, by omega, by rw [w64 (x := (i : Int) + 1) (by omega), plcT_f (plc_no ht4)]; rfl⟩
            · skip
              (first | (have hkv : plcV h s = [.nsl, .int .i64 250] := (by unfold plcV; rw [ht1]; rfl)) | (have hk : keepsH h s = true := ht1; have hvl := keeps_valid hk; have hV := validH_all hvl; have hol := hV.ol; have hrl := hV.rl) | skip)
              refine tr_skip ?_
              (try simp only [thenE, inBlkE])
              refine hK16 _ ?_
              refine tr_region [1, 2, 6, 7, 9, 17, 18, 19, 27, 28, 29] rfl rfl fun K hK => ?_
              iterate 2 refine evR_p ?_
              refine evR_e hK ?_; clear hK K
              refine hKL2 _ ?_
              first | exact ⟨m2 - 1, _, by omega, (Wk.trans (Wk.ren 3 1 (Nat.le_of_ble_eq_true rfl) (Nat.le_of_ble_eq_true rfl) rfl) (Wk.cut 2 rfl)), i + 1, by omega, by rw [w64 (x := (i : Int) + 1) (by omega), plcT_t ht4.1 (show tkn s i = true from decide_eq_true ht4.2), ← List.append_assoc, encT_snoc]; rfl⟩ | exact ⟨m2 - 1, _, by omega, Wk.cut 2 rfl, i + 1, by omega, by rw [w64 (x := (i : Int) + 1) (by omega), plcT_f (plc_no ht4)]; rfl⟩
          · skip
            (first | (have hkv : plcV h s = [.nsl, .int .i64 250] := (by unfold plcV; rw [ht1]; rfl)) | (have hk : keepsH h s = true := ht1; have hvl := keeps_valid hk; have hV := validH_all hvl; have hol := hV.ol; have hrl := hV.rl) | skip)
            have hil : i = h.offers.length := by omega
            subst hil
            refine tr_exit ?_
            simp only [thenE, inBlkE, Nat.reduceEqDiff, ↓reduceIte]
            refine hK10 _ ?_
            refine tr_region [1, 2, 6, 17, 18, 19] rfl rfl fun K hK => ?_
            iterate 2 refine evR_p ?_
            refine evR_e hK ?_; clear hK K
            refine hKL1 _ ?_
            exact ⟨m - 1, _, by omega, Wk.cut 2 rfl, k + 1, by omega, by rw [w64 (x := (k : Int) + 1) (by omega)]; rfl⟩
      · skip
        (first | (have hkv : plcV h s = [.nsl, .int .i64 250] := (by unfold plcV; rw [ht1]; rfl)) | (have hk : keepsH h s = true := ht1; have hvl := keeps_valid hk; have hV := validH_all hvl; have hol := hV.ol; have hrl := hV.rl) | skip)
        have hkl : k = h.rooms.length := by omega
        subst hkl
        refine tr_exit ?_
        simp only [thenE, inBlkE, Nat.reduceEqDiff, ↓reduceIte]
        refine hK6 _ ?_
        refine tr_seq fun K20 hK20 => ?_
        refine tr_region [4, 5] rfl rfl fun K hK => ?_
        iterate 3 refine evR_p ?_
        refine evR_e hK ?_; clear hK K
        refine hK20 _ ?_
        refine tr_ret ?_
        (try simp only [thenE, inBlkE])
        simp (maxSteps := 4000000) (disch := first | assumption | omega | (simp only [go_sem, *]; done) | (simp only [go_sem, *]; omega)) only [postA, postO, resV1, fzAll, go_sem, hq, Int.reduceToNat, Nat.reduceBEq, Nat.reduceEqDiff, Nat.reduceAdd, Nat.reduceMul, Nat.reduceLeDiff, Nat.reduceLT, Nat.reduceSub, ↓reduceIte, reduceCtorEq]
        all_goals (first | (rw [hkv]; done) | (rw [plcV, hk]; rfl))
end

end Go.Proofs.YtaaongcfeldcoaaDoor


namespace Go.Proofs.YtaaongcfeldcoaaDoor
open Go.RowKit
set_option linter.unusedVariables false
set_option linter.unusedSimpArgs false
set_option maxRecDepth 100000
attribute [local go_sem] Nat.zero_add Nat.add_zero Nat.mul_one eq_self ne_eq not_true_eq_false not_false_eq_true decide_true decide_false decide_not Bool.false_eq_true List.filter_cons List.filter_nil true_and and_true beq_false beq_true Bool.not_true Bool.not_false Bool.and_true Bool.true_and Option.getD_some Option.getD_none imp_self implies_true Int.toNat_natCast List.cons_append List.nil_append List.map_cons List.map_nil List.length_cons List.length_nil List.getD_cons_zero List.getD_cons_succ List.drop_zero List.drop_succ_cons List.take_succ_cons List.take_zero
attribute [local go_sem] lowN lowQ lowM isAl appOwn unw appF isE isO stpO notIn St.bare evO evDO isEff stp St.get St.slot St.put List.lookup un unL ofVal gof nth pickV pkB_false pkB_true binV unV loadV idxV fldV partV buildV fillV lenV sliV appV appR rowsV winV V.parts V.okp V.sc Mem.look_cons Mem.look_nil V.cl V.clL AObj.clo fzAll exps St.fz Mem.fz V.fz V.fzL AObj.fz Option.isSome_some Option.isSome_none Bool.or_true Bool.true_or Bool.or_false Bool.false_or false_and and_false false_or or_false arT_112 arT_22 arT_23 arT_27 arT_28 arT_29 arT_33 arT_52 arT_57 arT_65 arT_76 arT_77 arT_84 arT_88 arT_9 arT_95 boolT_133 boolT_29 boolT_3 boolT_36 boolT_4 boolT_70 boolT_92 flatT_133 flatT_29 flatT_3 flatT_36 flatT_4 flatT_70 flatT_92 intT_121 intT_142 intT_144 intT_145 intT_3 intT_5 lay_110 lay_145 lay_22 lay_23 lay_25 lay_27 lay_28 lay_29 lay_3 lay_31 lay_33 lay_35 lay_4 lay_42 lay_51 lay_56 lay_57 lay_59 lay_70 lay_73 lay_77 lay_79 lay_81 lay_83 lay_84 lay_85 lay_88 lay_92 lay_94 lay_95 okF_10 okF_100 okF_101 okF_102 okF_103 okF_104 okF_105 okF_11 okF_12 okF_122 okF_123 okF_124 okF_125 okF_126 okF_127 okF_13 okF_14 okF_15 okF_16 okF_17 okF_18 okF_19 okF_20 okF_21 okF_22 okF_23 okF_24 okF_25 okF_26 okF_27 okF_28 okF_29 okF_3 okF_30 okF_31 okF_32 okF_33 okF_34 okF_35 okF_36 okF_37 okF_38 okF_39 okF_4 okF_40 okF_41 okF_42 okF_43 okF_44 okF_45 okF_46 okF_47 okF_48 okF_49 okF_5 okF_50 okF_51 okF_52 okF_53 okF_54 okF_55 okF_56 okF_57 okF_58 okF_59 okF_6 okF_60 okF_61 okF_62 okF_63 okF_64 okF_65 okF_66 okF_67 okF_68 okF_69 okF_7 okF_70 okF_71 okF_72 okF_73 okF_74 okF_75 okF_76 okF_77 okF_78 okF_79 okF_8 okF_80 okF_81 okF_82 okF_83 okF_84 okF_85 okF_86 okF_87 okF_88 okF_89 okF_9 okF_90 okF_91 okF_92 okF_93 okF_94 okF_95 okF_96 okF_97 okF_98 okF_99 plT_31 plT_35 plT_51 plT_56 plT_59 plT_70 plT_73 plT_90 plT_92 plT_95 slT_112 slT_22 slT_23 slT_27 slT_28 slT_29 slT_33 slT_52 slT_57 slT_65 slT_76 slT_77 slT_88 slT_95 stT_25_0 stT_25_1 stT_25_2 stT_25_3 stT_25_4 stT_31_0 stT_31_1 stT_31_2 stT_31_3 stT_35_0 stT_35_1 stT_35_2 stT_35_3 stT_51_0 stT_51_1 stT_56_0 stT_56_1 stT_56_2 stT_56_3 stT_59_0 stT_59_1 stT_59_2 stT_73_0 stT_73_3 stT_73_4 stT_73_5 stT_79_0 stT_79_1 stT_79_2 stT_83_0 stT_90_0 stT_90_1 stT_90_2 stT_90_3 strT_76 strT_77 strT_84 strT_9 zeroT_112 zeroT_145 zeroT_3 zeroT_31 zeroT_33 zeroT_35 zeroT_42 zeroT_51 zeroT_56 zeroT_57 zeroT_59 zeroT_70 zeroT_73 zeroT_79 zeroT_83 zeroT_90 zeroT_92 zeroT_95
attribute [local go_sem] List.getElem?_cons_zero List.getElem?_cons_succ List.zip_cons_cons List.zip_nil_left List.zip_nil_right Bool.false_and Bool.and_false List.length_append List.length_set List.length_replicate List.all_cons List.all_nil encI_length encI_getD encR_length encR_getD encRw encPg spl shp AObj.shp rowM isSt isRpS isRd csh AObj.csh forall_const imp_self
attribute [local go_sem] encHr encOf encSp encP2 encSps_length encOfs_length encP2s_length encSps_getD encOfs_getD encP2s_getD
attribute [local simp] encI_length encR_length cellsI_length encSps_length encOfs_length encP2s_length
theorem k23 (must : List Int) : CallsA Tryd.prog 23 [.sl 1 (encI must)] (.agg (encHr (exH must))) := by
  have hq : True := trivial
  refine callsA_of_tr Tryd.func23 rfl (Nat.le_of_ble_eq_true rfl) ?_
  simp only [Tryd.results23, envOf, Nat.reduceAdd]
  refine tr_seq fun K1 hK1 => ?_
  refine tr_region [0, 2] rfl rfl fun K hK => ?_
  refine evR_p ?_
  refine evR_e hK ?_; clear hK K
  refine hK1 _ ?_
  refine tr_seq fun K2 hK2 => ?_
  refine tr_region [2] rfl rfl fun K hK => ?_
  iterate 2 refine evR_p ?_
  refine evR_bs ?_
  iterate 4 refine evR_p ?_
  refine evR_bs ?_
  refine evR_p ?_
  refine evR_bs ?_
  iterate 3 refine evR_p ?_
  refine evR_e hK ?_; clear hK K
  refine hK2 _ ?_
  refine tr_ret ?_
  (try simp only [thenE, inBlkE])
  simp (maxSteps := 4000000) (disch := first | assumption | omega | (simp only [go_sem, *]; done) | (simp only [go_sem, *]; omega)) only [postA, postO, resV1, fzAll, go_sem, hq, Int.reduceToNat, Nat.reduceBEq, Nat.reduceEqDiff, Nat.reduceAdd, Nat.reduceMul, Nat.reduceLeDiff, Nat.reduceLT, Nat.reduceSub, ↓reduceIte, reduceCtorEq]
  all_goals (rfl)

section
attribute [local go_sem] encSol encR_length encR_getD encT encS_length
set_option maxHeartbeats 8000000 in
theorem k8  : CallsA Tryd.prog 8 [] (.bool true) := by
  obtain ⟨x1, x2, x3⟩ := ex_best0
  obtain ⟨y1, y2, y3⟩ := ex_best1
  obtain ⟨z1, z2, z3, z4⟩ := ex_keep
  obtain ⟨r1, r2, r3, r4⟩ := ex_rows
  have pp := proof_pos (withH (exH [0, 2]) 1)
  have hq := And.intro x1 (And.intro x2 (And.intro x3 (And.intro y1 (And.intro y2 (And.intro y3 (And.intro z1 (And.intro z2 (And.intro z3 (And.intro z4 (And.intro r1 (And.intro r2 (And.intro r3 (And.intro r4 (And.intro pp (And.intro ev0 (And.intro ex_p12 (And.intro ex_p10 (And.intro ex_kv (And.intro ex_r1 (ex_r2))))))))))))))))))))
  refine callsA_of_tr Tryd.func8 rfl (Nat.le_of_ble_eq_true rfl) ?_
  simp only [Tryd.results8, envOf, Nat.reduceAdd]
  refine tr_seq fun K1 hK1 => ?_
  refine tr_region [] rfl rfl fun K hK => ?_
  refine evR_p ?_
  refine evR_e hK ?_; clear hK K
  refine hK1 _ ?_
  refine tr_seq fun K2 hK2 => ?_
  refine tr_region [1] rfl rfl fun K hK => ?_
  refine evR_c (hc := ((k23 []).arg (.cons (.nsl 1) .nil))) (k := ?_)
  iterate 2 refine evR_p ?_
  refine evR_e hK ?_; clear hK K
  refine hK2 _ ?_
  refine tr_seq fun K3 hK3 => ?_
  refine tr_region [1, 2, 3] rfl rfl fun K hK => ?_
  refine evR_p ?_
  refine evR_c (hc := (k10 (exH []) ev0)) (k := ?_)
  iterate 6 refine evR_p ?_
  refine evR_e hK ?_; clear hK K
  refine hK3 _ ?_
  refine tr_seq fun K4 hK4 => ?_
  refine tr_region [1, 2, 3, 4, 5] rfl rfl fun K hK => ?_
  refine evR_p ?_
  refine evR_c (hc := (ex_p12 ▸ k24 (exH []) (ex_len [] (by simp [maxLen])).1 (ex_len [] (by simp [maxLen])).2.1 (ex_len [] (by simp [maxLen])).2.2.1 (ex_len [] (by simp [maxLen])).2.2.2 12)) (k := ?_)
  iterate 5 refine evR_p ?_
  refine evR_e hK ?_; clear hK K
  refine hK4 _ ?_
  refine tr_seq fun K5 hK5 => ?_
  refine tr_region [1, 2, 3, 4, 5, 6, 7] rfl rfl fun K hK => ?_
  refine evR_bs ?_
  refine evR_c (hc := (k23 [0])) (k := ?_)
  refine evR_c (hc := (k10 (exH [0]) ev1)) (k := ?_)
  iterate 6 refine evR_p ?_
  refine evR_e hK ?_; clear hK K
  refine hK5 _ ?_
  refine tr_seq fun K6 hK6 => ?_
  refine tr_region [1, 2, 3, 4, 5, 6, 7, 9, 10] rfl rfl fun K hK => ?_
  refine evR_bs ?_
  refine evR_c (hc := (k23 [0])) (k := ?_)
  refine evR_c (hc := (ex_r1 ▸ k15 (exH [0]) (ex_len [0] (by simp [maxLen])).1 (ex_len [0] (by simp [maxLen])).2.1 (ex_len [0] (by simp [maxLen])).2.2.1 (ex_len [0] (by simp [maxLen])).2.2.2 1)) (k := ?_)
  iterate 7 refine evR_p ?_
  refine evR_e hK ?_; clear hK K
  refine hK6 _ ?_
  refine tr_seq fun K7 hK7 => ?_
  refine tr_region [1, 2, 3, 4, 5, 6, 7, 9, 10, 11, 12, 13] rfl rfl fun K hK => ?_
  refine evR_bs ?_
  refine evR_c (hc := (k23 [0, 2])) (k := ?_)
  refine evR_c (hc := (ex_r2 ▸ k15 (exH [0, 2]) (ex_len [0, 2] (by simp [maxLen])).1 (ex_len [0, 2] (by simp [maxLen])).2.1 (ex_len [0, 2] (by simp [maxLen])).2.2.1 (ex_len [0, 2] (by simp [maxLen])).2.2.2 1)) (k := ?_)
  iterate 7 refine evR_p ?_
  refine evR_e hK ?_; clear hK K
  refine hK7 _ ?_
  refine tr_seq fun K8 hK8 => ?_
  refine tr_region [1, 2, 3, 4, 5, 6, 7, 9, 10, 11, 12, 13, 14, 15] rfl rfl fun K hK => ?_
  refine evR_p ?_
  refine evR_c (hc := (ex_kv ▸ k17 (exH []) (ex_len [] (by simp [maxLen])).1 (ex_len [] (by simp [maxLen])).2.1 (ex_len [] (by simp [maxLen])).2.2.1 (ex_len [] (by simp [maxLen])).2.2.2 12)) (k := ?_)
  iterate 5 refine evR_p ?_
  refine evR_e hK ?_; clear hK K
  refine hK8 _ ?_
  refine tr_seq fun K9 hK9 => ?_
  refine tr_region [1, 2, 3, 4, 5, 6, 7, 9, 10, 11, 12, 13, 14, 15, 16, 17] rfl rfl fun K hK => ?_
  refine evR_p ?_
  refine evR_c (hc := (k20 (exH []) ev0)) (k := ?_)
  iterate 6 refine evR_p ?_
  refine evR_e hK ?_; clear hK K
  refine hK9 _ ?_
  refine tr_seq fun K10 hK10 => ?_
  refine tr_region [1, 2, 3, 4, 5, 6, 7, 9, 10, 11, 12, 13, 14, 15, 16, 17, 19] rfl rfl fun K hK => ?_
  refine evR_p ?_
  refine evR_c (hc := (ex_p10 ▸ k24 (exH []) (ex_len [] (by simp [maxLen])).1 (ex_len [] (by simp [maxLen])).2.1 (ex_len [] (by simp [maxLen])).2.2.1 (ex_len [] (by simp [maxLen])).2.2.2 10)) (k := ?_)
  iterate 5 refine evR_p ?_
  refine evR_e hK ?_; clear hK K
  refine hK10 _ ?_
  refine tr_seq fun K11 hK11 => ?_
  refine tr_seq fun K12 hK12 => ?_
  refine tr_region [1, 2, 4, 6, 9, 11, 12, 14, 16, 108] rfl rfl fun K hK => ?_
  iterate 3 refine evR_p ?_
  iterate 2 refine evR_g ?_
  iterate 2 refine evR_p ?_
  iterate 2 refine evR_g ?_
  iterate 2 refine evR_p ?_
  iterate 2 refine evR_g ?_
  iterate 2 refine evR_p ?_
  iterate 2 refine evR_g ?_
  iterate 2 refine evR_p ?_
  iterate 2 refine evR_g ?_
  iterate 2 refine evR_p ?_
  iterate 2 refine evR_g ?_
  iterate 2 refine evR_p ?_
  iterate 2 refine evR_g ?_
  iterate 2 refine evR_p ?_
  iterate 4 refine evR_g ?_
  iterate 2 refine evR_p ?_
  iterate 3 refine evR_g ?_
  refine evR_p ?_
  refine evR_e hK ?_; clear hK K
  refine hK12 _ ?_
  refine tr_condB (fun ht1 => ?_) (fun ht1 => ?_)
  · skip
    (first | (exfalso; omega) | (exfalso; simp_all; done) | skip)
    all_goals
      refine tr_seq fun K13 hK13 => ?_
      refine tr_region [0] rfl rfl fun K hK => ?_
      refine evR_p ?_
      refine evR_e hK ?_; clear hK K
      refine hK13 _ ?_
      refine tr_ret ?_
      (try simp only [thenE, inBlkE])
      simp (maxSteps := 4000000) (disch := first | assumption | omega | (simp only [go_sem, *]; done) | (simp only [go_sem, *]; omega)) only [postA, postO, resV1, fzAll, go_sem, hq, Int.reduceToNat, Nat.reduceBEq, Nat.reduceEqDiff, Nat.reduceAdd, Nat.reduceMul, Nat.reduceLeDiff, Nat.reduceLT, Nat.reduceSub, ↓reduceIte, reduceCtorEq]
      all_goals ((first | (simp [z1, z2, z3, z4]; done) | (simp [z1, z2, z3, z4]; exact proof_pos _)))
  · skip
    (first | (exfalso; omega) | (exfalso; simp_all; done) | skip)
    all_goals
      refine tr_skip ?_
      (try simp only [thenE, inBlkE])
      refine hK11 _ ?_
      refine tr_seq fun K14 hK14 => ?_
      refine tr_region [1, 4, 14, 16, 20] rfl rfl fun K hK => ?_
      iterate 3 refine evR_p ?_
      iterate 3 refine evR_g ?_
      iterate 2 refine evR_p ?_
      iterate 3 refine evR_g ?_
      iterate 2 refine evR_p ?_
      iterate 2 refine evR_g ?_
      iterate 2 refine evR_p ?_
      iterate 3 refine evR_g ?_
      iterate 2 refine evR_p ?_
      iterate 3 refine evR_g ?_
      iterate 2 refine evR_p ?_
      iterate 2 refine evR_g ?_
      iterate 2 refine evR_p ?_
      refine evR_g ?_
      iterate 2 refine evR_p ?_
      iterate 3 refine evR_g ?_
      iterate 2 refine evR_p ?_
      refine evR_e hK ?_; clear hK K
      refine hK14 _ ?_
      refine tr_seq fun K15 hK15 => ?_
      refine tr_region [1, 16, 20, 21] rfl rfl fun K hK => ?_
      iterate 3 refine evR_p ?_
      refine evR_bs ?_
      refine evR_c (hc := (k25 [⟨100, 130, 2⟩, ⟨200, 245, 3⟩] [⟨100, 130, 2⟩, ⟨200, 245, 3⟩] (by simp [maxLen]) (by simp [maxLen]))) (k := ?_)
      refine evR_p ?_
      iterate 2 refine evR_g ?_
      refine evR_gc (hc := (k26 [1, 2] [1, 2] (by simp [maxLen]) (by simp [maxLen]))) (k := ?_)
      iterate 2 refine evR_p ?_
      refine evR_e hK ?_; clear hK K
      refine hK15 _ ?_
      refine tr_seq fun K16 hK16 => ?_
      refine tr_region [0] rfl rfl fun K hK => ?_
      iterate 2 refine evR_p ?_
      refine evR_g ?_
      iterate 2 refine evR_p ?_
      refine evR_g ?_
      refine evR_gc (hc := (k19 (exH []) (ex_len [] (by simp [maxLen])).1 (ex_len [] (by simp [maxLen])).2.1 (ex_len [] (by simp [maxLen])).2.2.1 (ex_len [] (by simp [maxLen])).2.2.2)) (k := ?_)
      iterate 2 refine evR_p ?_
      refine evR_g ?_
      refine evR_gc (hc := (k12 (exH []) (ex_len [] (by simp [maxLen])).1 (ex_len [] (by simp [maxLen])).2.1 (ex_len [] (by simp [maxLen])).2.2.1 (ex_len [] (by simp [maxLen])).2.2.2 12)) (k := ?_)
      iterate 2 refine evR_p ?_
      refine evR_g ?_
      refine evR_gc (hc := (k12 (exH []) (ex_len [] (by simp [maxLen])).1 (ex_len [] (by simp [maxLen])).2.1 (ex_len [] (by simp [maxLen])).2.2.1 (ex_len [] (by simp [maxLen])).2.2.2 10)) (k := ?_)
      refine evR_g ?_
      iterate 2 refine evR_p ?_
      refine evR_g ?_
      refine evR_gc (hc := (k12 (exH []) (ex_len [] (by simp [maxLen])).1 (ex_len [] (by simp [maxLen])).2.1 (ex_len [] (by simp [maxLen])).2.2.1 (ex_len [] (by simp [maxLen])).2.2.2 3)) (k := ?_)
      refine evR_g ?_
      iterate 2 refine evR_p ?_
      refine evR_g ?_
      refine evR_gc (hc := (k12 (exH []) (ex_len [] (by simp [maxLen])).1 (ex_len [] (by simp [maxLen])).2.1 (ex_len [] (by simp [maxLen])).2.2.1 (ex_len [] (by simp [maxLen])).2.2.2 16)) (k := ?_)
      refine evR_g ?_
      iterate 2 refine evR_p ?_
      iterate 6 refine evR_g ?_
      iterate 2 refine evR_p ?_
      iterate 6 refine evR_g ?_
      iterate 2 refine evR_p ?_
      refine evR_e hK ?_; clear hK K
      refine hK16 _ ?_
      refine tr_ret ?_
      (try simp only [thenE, inBlkE])
      simp (maxSteps := 4000000) (disch := first | assumption | omega | (simp only [go_sem, *]; done) | (simp only [go_sem, *]; omega)) only [postA, postO, resV1, fzAll, go_sem, hq, Int.reduceToNat, Nat.reduceBEq, Nat.reduceEqDiff, Nat.reduceAdd, Nat.reduceMul, Nat.reduceLeDiff, Nat.reduceLT, Nat.reduceSub, ↓reduceIte, reduceCtorEq]
      all_goals ((first | (simp [z1, z2, z3, z4]; done) | (simp [z1, z2, z3, z4]; exact proof_pos _)))
end

end Go.Proofs.YtaaongcfeldcoaaDoor


namespace Go.Proofs.YtaaongcfeldcoaaDoor
open Go.RowKit
set_option linter.unusedVariables false
set_option linter.unusedSimpArgs false
set_option maxRecDepth 100000
attribute [local go_sem] Nat.zero_add Nat.add_zero Nat.mul_one eq_self ne_eq not_true_eq_false not_false_eq_true decide_true decide_false decide_not Bool.false_eq_true List.filter_cons List.filter_nil true_and and_true beq_false beq_true Bool.not_true Bool.not_false Bool.and_true Bool.true_and Option.getD_some Option.getD_none imp_self implies_true Int.toNat_natCast List.cons_append List.nil_append List.map_cons List.map_nil List.length_cons List.length_nil List.getD_cons_zero List.getD_cons_succ List.drop_zero List.drop_succ_cons List.take_succ_cons List.take_zero
attribute [local go_sem] lowN lowQ lowM isAl appOwn unw appF isE isO stpO notIn St.bare evO evDO isEff stp St.get St.slot St.put List.lookup un unL ofVal gof nth pickV pkB_false pkB_true binV unV loadV idxV fldV partV buildV fillV lenV sliV appV appR rowsV winV V.parts V.okp V.sc Mem.look_cons Mem.look_nil V.cl V.clL AObj.clo fzAll exps St.fz Mem.fz V.fz V.fzL AObj.fz Option.isSome_some Option.isSome_none Bool.or_true Bool.true_or Bool.or_false Bool.false_or false_and and_false false_or or_false arT_112 arT_22 arT_23 arT_27 arT_28 arT_29 arT_33 arT_52 arT_57 arT_65 arT_76 arT_77 arT_84 arT_88 arT_9 arT_95 boolT_133 boolT_29 boolT_3 boolT_36 boolT_4 boolT_70 boolT_92 flatT_133 flatT_29 flatT_3 flatT_36 flatT_4 flatT_70 flatT_92 intT_121 intT_142 intT_144 intT_145 intT_3 intT_5 lay_110 lay_145 lay_22 lay_23 lay_25 lay_27 lay_28 lay_29 lay_3 lay_31 lay_33 lay_35 lay_4 lay_42 lay_51 lay_56 lay_57 lay_59 lay_70 lay_73 lay_77 lay_79 lay_81 lay_83 lay_84 lay_85 lay_88 lay_92 lay_94 lay_95 okF_10 okF_100 okF_101 okF_102 okF_103 okF_104 okF_105 okF_11 okF_12 okF_122 okF_123 okF_124 okF_125 okF_126 okF_127 okF_13 okF_14 okF_15 okF_16 okF_17 okF_18 okF_19 okF_20 okF_21 okF_22 okF_23 okF_24 okF_25 okF_26 okF_27 okF_28 okF_29 okF_3 okF_30 okF_31 okF_32 okF_33 okF_34 okF_35 okF_36 okF_37 okF_38 okF_39 okF_4 okF_40 okF_41 okF_42 okF_43 okF_44 okF_45 okF_46 okF_47 okF_48 okF_49 okF_5 okF_50 okF_51 okF_52 okF_53 okF_54 okF_55 okF_56 okF_57 okF_58 okF_59 okF_6 okF_60 okF_61 okF_62 okF_63 okF_64 okF_65 okF_66 okF_67 okF_68 okF_69 okF_7 okF_70 okF_71 okF_72 okF_73 okF_74 okF_75 okF_76 okF_77 okF_78 okF_79 okF_8 okF_80 okF_81 okF_82 okF_83 okF_84 okF_85 okF_86 okF_87 okF_88 okF_89 okF_9 okF_90 okF_91 okF_92 okF_93 okF_94 okF_95 okF_96 okF_97 okF_98 okF_99 plT_31 plT_35 plT_51 plT_56 plT_59 plT_70 plT_73 plT_90 plT_92 plT_95 slT_112 slT_22 slT_23 slT_27 slT_28 slT_29 slT_33 slT_52 slT_57 slT_65 slT_76 slT_77 slT_88 slT_95 stT_25_0 stT_25_1 stT_25_2 stT_25_3 stT_25_4 stT_31_0 stT_31_1 stT_31_2 stT_31_3 stT_35_0 stT_35_1 stT_35_2 stT_35_3 stT_51_0 stT_51_1 stT_56_0 stT_56_1 stT_56_2 stT_56_3 stT_59_0 stT_59_1 stT_59_2 stT_73_0 stT_73_3 stT_73_4 stT_73_5 stT_79_0 stT_79_1 stT_79_2 stT_83_0 stT_90_0 stT_90_1 stT_90_2 stT_90_3 strT_76 strT_77 strT_84 strT_9 zeroT_112 zeroT_145 zeroT_3 zeroT_31 zeroT_33 zeroT_35 zeroT_42 zeroT_51 zeroT_56 zeroT_57 zeroT_59 zeroT_70 zeroT_73 zeroT_79 zeroT_83 zeroT_90 zeroT_92 zeroT_95
attribute [local go_sem] List.getElem?_cons_zero List.getElem?_cons_succ List.zip_cons_cons List.zip_nil_left List.zip_nil_right Bool.false_and Bool.and_false List.length_append List.length_set List.length_replicate List.all_cons List.all_nil encI_length encI_getD encR_length encR_getD encRw encPg spl shp AObj.shp rowM isSt isRpS isRd csh AObj.csh forall_const imp_self
attribute [local go_sem] encHr encOf encSp encP2 encSps_length encOfs_length encP2s_length encSps_getD encOfs_getD encP2s_getD
attribute [local simp] encI_length encR_length cellsI_length encSps_length encOfs_length encP2s_length
theorem k9 (fr : Int) (rs : List P2) (os : List Of) (ap mu : Int) (hrl : rs.length ≤ maxLen) (hol : os.length ≤ maxLen) (hrk : ∀ p ∈ rs, okP2 p) (hf : okI fr) : CallsA Tryd.prog 9 [.agg [.int .i64 fr, .sl 2 (encP2s rs), .sl 4 (encOfs os), .int .i64 ap, .int .i64 mu]] (.agg (encHr (madeH fr rs os ap mu))) := by
  have hq : True := trivial
  refine callsA_of_tr Tryd.func9 rfl (Nat.le_of_ble_eq_true rfl) ?_
  simp only [Tryd.results9, envOf, Nat.reduceAdd]
  refine tr_seq fun K1 hK1 => ?_
  refine tr_region [1, 2] rfl rfl fun K hK => ?_
  iterate 2 refine evR_p ?_
  refine evR_e hK ?_; clear hK K
  refine hK1 _ ?_
  refine tr_seq fun K2 hK2 => ?_
  refine tr_region [2] rfl rfl fun K hK => ?_
  iterate 10 refine evR_p ?_
  refine evR_c (hc := (k27 fr rs os ap mu hrl hol hrk hf)) (k := ?_)
  refine evR_p ?_
  refine evR_e hK ?_; clear hK K
  refine hK2 _ ?_
  refine tr_ret ?_
  (try simp only [thenE, inBlkE])
  simp (maxSteps := 4000000) (disch := first | assumption | omega | (simp only [go_sem, *]; done) | (simp only [go_sem, *]; omega)) only [postA, postO, resV1, fzAll, go_sem, hq, Int.reduceToNat, Nat.reduceBEq, Nat.reduceEqDiff, Nat.reduceAdd, Nat.reduceMul, Nat.reduceLeDiff, Nat.reduceLT, Nat.reduceSub, ↓reduceIte, reduceCtorEq]
  all_goals (rfl)

set_option maxHeartbeats 4000000 in
theorem k7 (fr : Int) (rs : List P2) (os : List Of) (ap mu : Int) (hrl : rs.length ≤ maxLen) (hol : os.length ≤ maxLen) (hrk : ∀ p ∈ rs, okP2 p) (hok : ∀ o ∈ os, okO o) (hf : okI fr) (s : Int) (hs : okI s) : CallsA Tryd.prog 7 [.agg [.int .i64 fr, .sl 2 (encP2s rs), .sl 4 (encOfs os), .int .i64 ap, .int .i64 mu], .int .i64 s] (.bool true) := by
  have hk9 := k9 fr rs os ap mu hrl hol hrk hf
  have hv := made_validH (ap := ap) (mu := mu) hf hrk hok
  generalize madeH fr rs os ap mu = M at hk9 hv
  have hV := validH_all hv
  have hr : M.rooms.length ≤ maxLen := by have := hV.rl; unfold maxLen; omega
  have ho : M.offers.length ≤ maxLen := by have := hV.ol; unfold maxLen; omega
  have ha : M.apart.length ≤ maxLen := by have := hV.al; unfold maxLen; omega
  have hm : M.must.length ≤ maxLen := by have := hV.ml; unfold maxLen; omega
  have holM := hV.ol
  have hrlM := hV.rl
  have hpv := progH_valid hV
  have kr := keeps_rows hv (choW M s)
  have hq := And.intro hv (And.intro hpv (kr))
  refine callsA_of_tr Tryd.func7 rfl (Nat.le_of_ble_eq_true rfl) ?_
  simp only [Tryd.results7, envOf, Nat.reduceAdd]
  refine tr_seq fun K1 hK1 => ?_
  refine tr_region [1, 2] rfl rfl fun K hK => ?_
  iterate 2 refine evR_p ?_
  refine evR_e hK ?_; clear hK K
  refine hK1 _ ?_
  refine tr_seq fun K2 hK2 => ?_
  refine tr_seq fun K3 hK3 => ?_
  refine tr_region [1, 2, 10] rfl rfl fun K hK => ?_
  refine evR_c (hc := k8) (k := ?_)
  refine evR_p ?_
  refine evR_e hK ?_; clear hK K
  refine hK3 _ ?_
  refine tr_condB (fun ht1 => ?_) (fun ht1 => ?_)
  · skip
    (first | (exfalso; simp_all; done) | skip)
    all_goals
      refine tr_seq fun K4 hK4 => ?_
      refine tr_region [4] rfl rfl fun K hK => ?_
      refine evR_p ?_
      refine evR_e hK ?_; clear hK K
      refine hK4 _ ?_
      refine tr_ret ?_
      (try simp only [thenE, inBlkE])
      simp (maxSteps := 4000000) (disch := first | assumption | omega | (simp only [go_sem, *]; done) | (simp only [go_sem, *]; omega)) only [postA, postO, resV1, fzAll, go_sem, hq, Int.reduceToNat, Nat.reduceBEq, Nat.reduceEqDiff, Nat.reduceAdd, Nat.reduceMul, Nat.reduceLeDiff, Nat.reduceLT, Nat.reduceSub, ↓reduceIte, reduceCtorEq]
      all_goals (simp [hv, hpv, kr])
  · skip
    (first | (exfalso; simp_all; done) | skip)
    all_goals
      refine tr_skip ?_
      (try simp only [thenE, inBlkE])
      refine hK2 _ ?_
      refine tr_seq fun K5 hK5 => ?_
      refine tr_region [1, 5] rfl rfl fun K hK => ?_
      refine evR_p ?_
      refine evR_c (hc := hk9) (k := ?_)
      iterate 2 refine evR_p ?_
      refine evR_e hK ?_; clear hK K
      refine hK5 _ ?_
      refine tr_seq fun K6 hK6 => ?_
      refine tr_region [1, 5, 6, 7] rfl rfl fun K hK => ?_
      refine evR_p ?_
      refine evR_c (hc := (k20 M hv)) (k := ?_)
      iterate 6 refine evR_p ?_
      refine evR_e hK ?_; clear hK K
      refine hK6 _ ?_
      refine tr_seq fun K7 hK7 => ?_
      refine tr_region [5, 6, 7, 8] rfl rfl fun K hK => ?_
      iterate 2 refine evR_p ?_
      refine evR_c (hc := (k11 M holM s)) (k := ?_)
      refine evR_p ?_
      refine evR_e hK ?_; clear hK K
      refine hK7 _ ?_
      refine tr_seq fun K8 hK8 => ?_
      refine tr_draw [] [4] mixed rfl (by kernel_rfl) rfl fun K hK => ?_
      iterate 3 refine evD_p ?_
      refine evD_g ?_
      refine evD_gc (hc := (c20 (progH M) (valid_max hpv).1 (valid_max hpv).2.1 (valid_max hpv).2.2)) (k := ?_)
      iterate 2 refine evD_p ?_
      iterate 2 refine evD_g ?_
      refine evD_gc (hc := (k12 M hr ho ha hm (choW M s))) (k := ?_)
      iterate 2 refine evD_g ?_
      refine evD_gc (hc := (c22 (progH M) (valid_max hpv).1 (valid_max hpv).2.1 (valid_max hpv).2.2 (choW M s))) (k := ?_)
      refine evD_g ?_
      iterate 2 refine evD_p ?_
      refine evD_g ?_
      refine evD_gc (hc := (k19 M hr ho ha hm)) (k := ?_)
      iterate 2 refine evD_p ?_
      refine evD_e hK ?_; clear hK K
      refine hK8 _ ?_
      refine tr_ret ?_
      (try simp only [thenE, inBlkE])
      simp (maxSteps := 4000000) (disch := first | assumption | omega | (simp only [go_sem, *]; done) | (simp only [go_sem, *]; omega)) only [postA, postO, resV1, fzAll, go_sem, hq, Int.reduceToNat, Nat.reduceBEq, Nat.reduceEqDiff, Nat.reduceAdd, Nat.reduceMul, Nat.reduceLeDiff, Nat.reduceLT, Nat.reduceSub, ↓reduceIte, reduceCtorEq]
      all_goals (simp [hv, hpv, kr])

end Go.Proofs.YtaaongcfeldcoaaDoor


namespace Go.Proofs.YtaaongcfeldcoaaDoor
open Go.RowKit
set_option linter.unusedVariables false
set_option linter.unusedSimpArgs false
/-! #### lists that grow -/
theorem chL_srt (rows : List Rw) : ∀ n, srt (chL rows n) ∧ ∀ x ∈ chL rows n, x < (n : Int)
  | 0 => ⟨fun i j _ h => by simp [chL] at h, by simp [chL]⟩
  | n + 1 => by
    obtain ⟨h1, h2⟩ := chL_srt rows n
    cases h : allKept rows n with
    | false => rw [chL_f h]; exact ⟨h1, fun x hx => by have := h2 x hx; omega⟩
    | true =>
      rw [chL_t h]
      refine ⟨fun i j hij hj => ?_, fun x hx => ?_⟩
      · by_cases hj2 : j < (chL rows n).length
        · have e1 : (chL rows n ++ [(n : Int)]).getD i 0 = (chL rows n).getD i 0 := by simp [List.getD, List.getElem?_append_left (show i < (chL rows n).length by omega)]
          have e2 : (chL rows n ++ [(n : Int)]).getD j 0 = (chL rows n).getD j 0 := by simp [List.getD, List.getElem?_append_left hj2]
          rw [e1, e2]; exact h1 i j hij hj2
        · have hj3 : j = (chL rows n).length := by simp at hj; omega
          subst hj3
          have e1 : (chL rows n ++ [(n : Int)]).getD i 0 = (chL rows n).getD i 0 := by simp [List.getD, List.getElem?_append_left hij]
          have e2 : (chL rows n ++ [(n : Int)]).getD (chL rows n).length 0 = n := by simp [List.getD]
          rw [e1, e2]; exact h2 _ (getD_mem hij)
      · rcases List.mem_append.1 hx with hx | hx
        · have := h2 x hx; omega
        · rw [List.mem_singleton] at hx; omega
theorem choice_srt (p : Pg) : srt (choiceL p) := (chL_srt p.rows _).1
theorem srt_lt {l : List Int} (h : srt l) {i j : Nat} (hi : i < l.length) (hj : j < l.length) : l.getD i 0 < l.getD j 0 ↔ i < j := by
  constructor
  · intro hl
    rcases Nat.lt_or_ge i j with h1 | h1
    · exact h1
    · have := srt_le h h1 hi; omega
  · exact fun hl => h i j hl hj
/-- Among the first n of a, those that r keeps. -/
def cntK (r : Rw) (a : List Int) (n : Nat) : List Int := (a.take n).filter fun s => keptB r s
theorem cntK_t {r : Rw} {a : List Int} {n : Nat} (hn : n < a.length) (h : keptB r (a.getD n 0) = true) : cntK r a (n + 1) = cntK r a n ++ [a.getD n 0] := by
  have e : a[n] = a.getD n 0 := by simp [List.getD, hn]
  unfold cntK
  rw [List.take_add_one, List.getElem?_eq_getElem hn, List.filter_append]
  simp only [Option.toList_some, List.filter_cons, List.filter_nil, e, h, if_true]
theorem cntK_f {r : Rw} {a : List Int} {n : Nat} (hn : n < a.length) (h : keptB r (a.getD n 0) = false) : cntK r a (n + 1) = cntK r a n := by
  have e : a[n] = a.getD n 0 := by simp [List.getD, hn]
  unfold cntK
  rw [List.take_add_one, List.getElem?_eq_getElem hn, List.filter_append]
  simp [List.filter_cons, e]
  exact h
theorem cntK_all (r : Rw) (a : List Int) : cntK r a a.length = a.filter fun s => keptB r s := by unfold cntK; rw [List.take_length]
theorem cntK_pre (r : Rw) (a : List Int) {n : Nat} (hn : n < a.length) (h : keptB r (a.getD n 0) = true) : (cntK r a n).length < (a.filter fun s => keptB r s).length ∧ (a.filter fun s => keptB r s).getD (cntK r a n).length 0 = a.getD n 0 := by
  have e : a.filter (fun s => keptB r s) = cntK r a (n + 1) ++ (a.drop (n + 1)).filter fun s => keptB r s := by
    unfold cntK; rw [← List.filter_append, List.take_append_drop]
  rw [e, cntK_t hn h]
  constructor
  · simp
  · simp [List.getD]
theorem chL_more (rows : List Rw) (r : Rw) : ∀ n, chL (rows ++ [r]) n = (chL rows n).filter fun s => keptB r s
  | 0 => rfl
  | n + 1 => by
    have e : allKept (rows ++ [r]) n = (allKept rows n && keptB r n) := by simp [allKept]
    simp only [chL, e, chL_more rows r n]
    cases h1 : allKept rows n <;> cases h2 : keptB r (n : Int) <;> simp [h1, h2]
/-! #### a further row -/
def moreP (p : Pg) (r : Rw) : Pg := ⟨p.vars, p.rows ++ [r], p.gain⟩
theorem more_choices (p : Pg) (r : Rw) : choiceL (moreP p r) = (choiceL p).filter fun s => keptB r s := chL_more p.rows r _
theorem more_valid {p : Pg} (hv : validB p = true) {r : Rw} (hr : rightB r p.vars = true) (hl : p.rows.length < 300) : validB (moreP p r) = true := by
  obtain ⟨h0, h1, h2, h3, h4, h5⟩ := validB_all hv
  have hh : ∀ q ∈ p.rows ++ [r], rightB q p.vars = true := fun q hq => by
    rcases List.mem_append.1 hq with hq | hq
    · obtain ⟨k1, k2, k3⟩ := h5 q hq
      simp only [rightB, Bool.and_eq_true, decide_eq_true_eq, isInB_spec]; exact ⟨k1, k2, k3⟩
    · rw [List.mem_singleton] at hq; subst hq; exact hr
  simp only [validB, moreP, Bool.and_eq_true, decide_eq_true_eq, isInB_spec, List.all_eq_true]
  exact ⟨⟨h0, h1⟩, decide_eq_true (show ((p.rows ++ [r]).length : Int) ≤ 300 by simp; omega), hh, decide_eq_true h3, h4⟩
theorem more_solve {p : Pg} (hv : validB p = true) {r : Rw} : (solveW (moreP p r)).found = true → (solveW p).found = true ∧ (solveW (moreP p r)).gain ≤ (solveW p).gain := by
  intro hf
  have s1 := bestW_spec p.gain (choiceL (moreP p r))
  have s2 := bestW_spec p.gain (choiceL p)
  have e1 : bestW p.gain (choiceL (moreP p r)) = solveB (moreP p r) := rfl
  have e2 : bestW p.gain (choiceL p) = solveB p := rfl
  rw [e1] at s1
  rw [e2] at s2
  have hf' : (solveB (moreP p r)).1 = true := hf
  obtain ⟨k1, k2, k3⟩ := s1.2 hf'
  rw [more_choices, List.mem_filter] at k1
  have hfp : (solveB p).1 = true := by
    cases h : (solveB p).1 with
    | true => rfl
    | false => rw [(s2.1 h).1] at k1; cases k1.1
  refine ⟨hfp, ?_⟩
  show (solveB (moreP p r)).2.2 ≤ (solveB p).2.2
  rw [k2]; exact (s2.2 hfp).2.2 _ k1.1
/-! #### without some -/
def bitL (b : Int) : Nat → List Int
  | 0 => []
  | n + 1 => if decide ((shrW .i64 b n).tmod 2 = 1) = true then bitL b n ++ [(n : Int)] else bitL b n
theorem bitL_t {b : Int} {n : Nat} (h : (shrW .i64 b n).tmod 2 = 1) : bitL b (n + 1) = bitL b n ++ [(n : Int)] := by simp only [bitL, h, decide_true, if_true]
theorem bitL_f {b : Int} {n : Nat} (h : ¬ (shrW .i64 b n).tmod 2 = 1) : bitL b (n + 1) = bitL b n := by simp only [bitL, h, decide_false, Bool.false_eq_true, if_false]
theorem bitL_length (b : Int) : ∀ n, (bitL b n).length ≤ n
  | 0 => Nat.le_refl _
  | n + 1 => by have := bitL_length b n; simp only [bitL]; split <;> (try simp) <;> omega
theorem bitL_lt (b : Int) : ∀ n, srt (bitL b n) ∧ ∀ x ∈ bitL b n, 0 ≤ x ∧ x < (n : Int)
  | 0 => ⟨fun i j _ h => by simp [bitL] at h, by simp [bitL]⟩
  | n + 1 => by
    obtain ⟨h1, h2⟩ := bitL_lt b n
    by_cases h : (shrW .i64 b n).tmod 2 = 1
    · rw [bitL_t h]
      refine ⟨fun i j hij hj => ?_, fun x hx => ?_⟩
      · by_cases hj2 : j < (bitL b n).length
        · have e1 : (bitL b n ++ [(n : Int)]).getD i 0 = (bitL b n).getD i 0 := by simp [List.getD, List.getElem?_append_left (show i < (bitL b n).length by omega)]
          have e2 : (bitL b n ++ [(n : Int)]).getD j 0 = (bitL b n).getD j 0 := by simp [List.getD, List.getElem?_append_left hj2]
          rw [e1, e2]; exact h1 i j hij hj2
        · have hj3 : j = (bitL b n).length := by simp at hj; omega
          subst hj3
          have e1 : (bitL b n ++ [(n : Int)]).getD i 0 = (bitL b n).getD i 0 := by simp [List.getD, List.getElem?_append_left hij]
          have e2 : (bitL b n ++ [(n : Int)]).getD (bitL b n).length 0 = n := by simp [List.getD]
          rw [e1, e2]; exact (h2 _ (getD_mem hij)).2
      · rcases List.mem_append.1 hx with hx | hx
        · have := h2 x hx; omega
        · rw [List.mem_singleton] at hx; omega
    · rw [bitL_f h]; exact ⟨h1, fun x hx => by have := h2 x hx; omega⟩
theorem okRows_of {p : Pg} (hv : validB p = true) {l : List Int} (hs : srt l) (hr : ∀ x ∈ l, 0 ≤ x ∧ x < (p.rows.length : Int)) : okRows p l = true := by
  obtain ⟨h0, h1, h2, h3, h4, h5⟩ := validB_all hv
  refine okTo_iff.2 fun i hi => idxOk_iff.2 ?_
  have := hr _ (getD_mem (d := 0) hi)
  rw [w64 (by omega)]
  refine ⟨this.1, by omega, fun h => hs (i - 1) i (by omega) hi⟩
theorem keepTo_mem {p : Pg} {l : List Int} {r : Rw} : ∀ {n : Nat}, r ∈ keepTo p l n → ∃ i : Nat, i < n ∧ r = p.rows.getD i rw0 ∧ ¬ (i : Int) ∈ l
  | 0, h => by simp [keepTo] at h
  | n + 1, h => by
    by_cases hm : (n : Int) ∈ l
    · rw [keepTo_t hm] at h
      obtain ⟨i, h1, h2⟩ := keepTo_mem h
      exact ⟨i, by omega, h2⟩
    · rw [keepTo_f hm] at h
      rcases List.mem_append.1 h with h | h
      · obtain ⟨i, h1, h2⟩ := keepTo_mem h
        exact ⟨i, by omega, h2⟩
      · rw [List.mem_singleton] at h; exact ⟨n, by omega, h, hm⟩
theorem without_valid {p : Pg} (hv : validB p = true) (l : List Int) : validB (withoutW p l) = true := by
  obtain ⟨h0, h1, h2, h3, h4, h5⟩ := validB_all hv
  have hh : ∀ q ∈ keepTo p l p.rows.length, rightB q p.vars = true := fun q hq => by
    obtain ⟨i, hi, rfl, -⟩ := keepTo_mem hq
    obtain ⟨k1, k2, k3⟩ := h5 _ (getD_mem (d := rw0) hi)
    simp only [rightB, Bool.and_eq_true, decide_eq_true_eq, isInB_spec]; exact ⟨k1, k2, k3⟩
  have hl := keepTo_length p l p.rows.length
  simp only [validB, withoutW, Bool.and_eq_true, decide_eq_true_eq, isInB_spec, List.all_eq_true]
  exact ⟨⟨h0, h1⟩, decide_eq_true (show ((keepTo p l p.rows.length).length : Int) ≤ 300 by omega), hh, decide_eq_true h3, h4⟩
theorem without_more {p : Pg} (l : List Int) {x : Int} (h : x ∈ choiceL p) : x ∈ choiceL (withoutW p l) := by
  obtain ⟨s, h1, h2, h3⟩ := mem_choiceL.1 h
  refine mem_choiceL.2 ⟨s, h1, h2, ?_⟩
  simp only [allKept, List.all_eq_true] at h3 ⊢
  intro r hr
  obtain ⟨i, hi, rfl, -⟩ := keepTo_mem hr
  exact h3 _ (getD_mem hi)
/-- How many rows are left. -/
theorem keepTo_count {p : Pg} {b : Int} {m : Nat} : ∀ {n : Nat}, n ≤ m → (keepTo p (bitL b m) n).length + (bitL b n).length = n
  | 0, _ => by simp [keepTo, bitL]
  | n + 1, h => by
    have ih := keepTo_count (p := p) (b := b) (m := m) (n := n) (by omega)
    have hmem : ∀ m, n < m → ((n : Int) ∈ bitL b m ↔ (shrW .i64 b n).tmod 2 = 1) := by
      intro m
      induction m with
      | zero => intro h; omega
      | succ m ihm =>
        intro h
        by_cases e : n = m
        · subst e
          by_cases h2 : (shrW .i64 b n).tmod 2 = 1
          · rw [bitL_t h2]; simp [h2]
          · rw [bitL_f h2]
            have := (bitL_lt b n).2
            constructor
            · intro h3; have := this _ h3; omega
            · exact fun h3 => (h2 h3).elim
        · have ih2 := ihm (by omega)
          by_cases h2 : (shrW .i64 b m).tmod 2 = 1
          · rw [bitL_t h2, List.mem_append, ih2, List.mem_singleton]
            constructor
            · rintro (h3 | h3)
              · exact h3
              · omega
            · exact fun h3 => .inl h3
          · rw [bitL_f h2]; exact ih2
    have hm := hmem m (by omega)
    by_cases h2 : (shrW .i64 b n).tmod 2 = 1
    · rw [keepTo_t (hm.2 h2), bitL_t h2]; simp; omega
    · rw [keepTo_f (fun h3 => h2 (hm.1 h3)), bitL_f h2]; simp; omega
theorem merge_at {c : List Int} (hc : srt c) {w : Nat} {x : Int} (h : ∀ j, j < w → c.getD j 0 < x) (hx : x ∈ c) (hn : ¬ ((w : Int) < c.length ∧ c.getD w 0 < x)) : w < c.length ∧ c.getD w 0 = x := by
  obtain ⟨i, hi, e⟩ : ∃ i, i < c.length ∧ c.getD i 0 = x := by
    obtain ⟨i, hi, rfl⟩ := List.getElem_of_mem hx
    exact ⟨i, hi, by simp [List.getD, hi]⟩
  have hwi : w ≤ i := by
    rcases Nat.lt_or_ge i w with h1 | h1
    · have := h i h1; omega
    · exact h1
  have := srt_le hc hwi hi
  refine ⟨by omega, ?_⟩
  rcases Int.lt_or_le (c.getD w 0) x with h1 | h1
  · exact (hn ⟨by omega, h1⟩).elim
  · omega
theorem more_at {p : Pg} (hv : validB p = true) {v : Nat} (e : p.vars = v) {r : Rw} (hr : rightB r p.vars = true) (hl : p.rows.length < 300) {k : Nat} (hk : k < (choiceL p).length) :
    (¬ r.most < sumW r ((choiceL p).getD k 0) → (cntK r (choiceL p) k).length < (choiceL (moreP p r)).length ∧ (choiceL (moreP p r)).getD (cntK r (choiceL p) k).length 0 = (choiceL p).getD k 0 ∧ (cntK r (choiceL p) (k + 1)).length = (cntK r (choiceL p) k).length + 1) ∧
    (r.most < sumW r ((choiceL p).getD k 0) → cntK r (choiceL p) (k + 1) = cntK r (choiceL p) k) := by
  obtain ⟨s, h1, h2, -⟩ := mem_choiceL.1 (getD_mem (d := 0) hk)
  have hq := more_valid hv hr hl
  have hs : s < 2 ^ v := by rw [e] at h2; simpa using h2
  have hm := sum_in hq (v := v) e (r := r) (by simp [moreP]) hs
  have hkb : keptB r ((choiceL p).getD k 0) = decide (sumW r ((choiceL p).getD k 0) ≤ r.most) := by
    rw [h1]; unfold keptB; rw [hm.1, hm.2.1]
  rw [more_choices]
  constructor
  · intro h
    have hkt : keptB r ((choiceL p).getD k 0) = true := by rw [hkb, decide_eq_true_eq]; omega
    obtain ⟨k1, k2⟩ := cntK_pre r _ hk hkt
    exact ⟨k1, k2, by rw [cntK_t hk hkt]; simp⟩
  · intro h
    exact cntK_f hk (by rw [hkb, decide_eq_false_iff_not]; omega)
theorem more_end (p : Pg) (r : Rw) : (cntK r (choiceL p) (choiceL p).length).length = (choiceL (moreP p r)).length := by rw [cntK_all, more_choices]
theorem made_one {v : Int} {t : T3} {g : List Int} : (madeW v [t] g).rows.length = 1 ∧ (madeW v [t] g).vars = pickW v 9 := by
  constructor
  · simp [madeW, rowsM_length]
  · rfl
end Go.Proofs.YtaaongcfeldcoaaDoor
