/- Texts of this proof, put together. -/
import Derived.Test.YtaaongcfeldcoaaDoorKQb
import Derived.Test.YtaaongcfeldcoaaDoorKQc
import Derived.Test.YtaaongcfeldcoaaDoorKQd
import Derived.Test.YtaaongcfeldcoaaDoorChecked
import Derived.Test.YtaaongcfeldcoaaDoorRows
import Derived.ProofKit
import Derived.LaidMore
import Derived.OpenShut
import Derived.Stop.Joined
namespace Go.Proofs.YtaaongcfeldcoaaDoor
open Go.RowKit
set_option linter.unusedVariables false
set_option linter.unusedSimpArgs false
set_option maxRecDepth 100000
attribute [local go_sem] Nat.zero_add Nat.add_zero Nat.mul_one eq_self ne_eq not_true_eq_false not_false_eq_true decide_true decide_false decide_not Bool.false_eq_true List.filter_cons List.filter_nil true_and and_true beq_false beq_true Bool.not_true Bool.not_false Bool.and_true Bool.true_and Option.getD_some Option.getD_none imp_self implies_true Int.toNat_natCast List.cons_append List.nil_append List.map_cons List.map_nil List.length_cons List.length_nil List.getD_cons_zero List.getD_cons_succ List.drop_zero List.drop_succ_cons List.take_succ_cons List.take_zero
attribute [local go_sem] lowN lowQ lowM isAl appOwn unw appF isE isO stpO notIn St.bare evO evDO isEff stp St.get St.slot St.put List.lookup un unL ofVal gof nth pickV pkB_false pkB_true binV unV loadV idxV fldV partV buildV fillV lenV sliV appV appR rowsV winV V.parts V.okp V.sc Mem.look_cons Mem.look_nil V.cl V.clL AObj.clo fzAll exps St.fz Mem.fz V.fz V.fzL AObj.fz Option.isSome_some Option.isSome_none Bool.or_true Bool.true_or Bool.or_false Bool.false_or false_and and_false false_or or_false arT_112 arT_22 arT_23 arT_27 arT_28 arT_29 arT_33 arT_52 arT_57 arT_65 arT_76 arT_77 arT_84 arT_88 arT_9 arT_95 boolT_133 boolT_29 boolT_3 boolT_36 boolT_4 boolT_70 boolT_92 flatT_133 flatT_29 flatT_3 flatT_36 flatT_4 flatT_70 flatT_92 intT_121 intT_142 intT_144 intT_145 intT_3 intT_5 lay_110 lay_145 lay_22 lay_23 lay_25 lay_27 lay_28 lay_29 lay_3 lay_31 lay_33 lay_35 lay_4 lay_42 lay_51 lay_56 lay_57 lay_59 lay_70 lay_73 lay_77 lay_79 lay_81 lay_83 lay_84 lay_85 lay_88 lay_92 lay_94 lay_95 okF_10 okF_100 okF_101 okF_102 okF_103 okF_104 okF_105 okF_11 okF_12 okF_122 okF_123 okF_124 okF_125 okF_126 okF_127 okF_13 okF_14 okF_15 okF_16 okF_17 okF_18 okF_19 okF_20 okF_21 okF_22 okF_23 okF_24 okF_25 okF_26 okF_27 okF_28 okF_29 okF_3 okF_30 okF_31 okF_32 okF_33 okF_34 okF_35 okF_36 okF_37 okF_38 okF_39 okF_4 okF_40 okF_41 okF_42 okF_43 okF_44 okF_45 okF_46 okF_47 okF_48 okF_49 okF_5 okF_50 okF_51 okF_52 okF_53 okF_54 okF_55 okF_56 okF_57 okF_58 okF_59 okF_6 okF_60 okF_61 okF_62 okF_63 okF_64 okF_65 okF_66 okF_67 okF_68 okF_69 okF_7 okF_70 okF_71 okF_72 okF_73 okF_74 okF_75 okF_76 okF_77 okF_78 okF_79 okF_8 okF_80 okF_81 okF_82 okF_83 okF_84 okF_85 okF_86 okF_87 okF_88 okF_89 okF_9 okF_90 okF_91 okF_92 okF_93 okF_94 okF_95 okF_96 okF_97 okF_98 okF_99 plT_31 plT_35 plT_51 plT_56 plT_59 plT_70 plT_73 plT_90 plT_92 plT_95 slT_112 slT_22 slT_23 slT_27 slT_28 slT_29 slT_33 slT_52 slT_57 slT_65 slT_76 slT_77 slT_88 slT_95 stT_25_0 stT_25_1 stT_25_2 stT_25_3 stT_25_4 stT_31_0 stT_31_1 stT_31_2 stT_31_3 stT_35_0 stT_35_1 stT_35_2 stT_35_3 stT_51_0 stT_51_1 stT_56_0 stT_56_1 stT_56_2 stT_56_3 stT_59_0 stT_59_1 stT_59_2 stT_73_0 stT_73_3 stT_73_4 stT_73_5 stT_79_0 stT_79_1 stT_79_2 stT_83_0 stT_90_0 stT_90_1 stT_90_2 stT_90_3 strT_76 strT_77 strT_84 strT_9 zeroT_112 zeroT_145 zeroT_3 zeroT_31 zeroT_33 zeroT_35 zeroT_42 zeroT_51 zeroT_56 zeroT_57 zeroT_59 zeroT_70 zeroT_73 zeroT_79 zeroT_83 zeroT_90 zeroT_92 zeroT_95
attribute [local go_sem] List.getElem?_cons_zero List.getElem?_cons_succ List.zip_cons_cons List.zip_nil_left List.zip_nil_right Bool.false_and Bool.and_false List.length_append List.length_set List.length_replicate List.all_cons List.all_nil encI_length encI_getD encR_length encR_getD encRw encPg spl shp AObj.shp rowM isSt isRpS isRd csh AObj.csh forall_const imp_self
attribute [local go_sem] encHr encOf encSp encP2 encSps_length encOfs_length encP2s_length encSps_getD encOfs_getD encP2s_getD
attribute [local simp] encI_length encR_length cellsI_length encSps_length encOfs_length encP2s_length
theorem k74 (o : Of) (k : Nat) : CallsA Tryd.prog 74 [.agg (encOf o), .ep [.int .i64 (k : Nat)]] (.int .i64 (roomC k o)) := by
  have hq : True := trivial
  refine callsA_of_tr Tryd.func74 rfl (Nat.le_of_ble_eq_true rfl) ?_
  simp only [Tryd.results74, envOf, Nat.reduceAdd]
  refine tr_seq fun K1 hK1 => ?_
  refine tr_region [1, 2] rfl rfl fun K hK => ?_
  iterate 2 refine evR_p ?_
  refine evR_e hK ?_; clear hK K
  refine hK1 _ ?_
  refine tr_seq fun K2 hK2 => ?_
  refine tr_seq fun K3 hK3 => ?_
  refine tr_region [2, 7] rfl rfl fun K hK => ?_
  iterate 4 refine evR_p ?_
  refine evR_e hK ?_; clear hK K
  refine hK3 _ ?_
  refine tr_condB (fun ht1 => ?_) (fun ht1 => ?_)
  · skip
    refine tr_seq fun K4 hK4 => ?_
    refine tr_region [3] rfl rfl fun K hK => ?_
    iterate 3 refine evR_p ?_
    refine evR_e hK ?_; clear hK K
    refine hK4 _ ?_
    refine tr_ret ?_
    (try simp only [thenE, inBlkE])
    simp (maxSteps := 4000000) (disch := first | assumption | omega | (simp only [go_sem, *]; done) | (simp only [go_sem, *]; omega)) only [postA, postO, resV1, fzAll, go_sem, hq, Int.reduceToNat, Nat.reduceBEq, Nat.reduceEqDiff, Nat.reduceAdd, Nat.reduceMul, Nat.reduceLeDiff, Nat.reduceLT, Nat.reduceSub, ↓reduceIte, reduceCtorEq]
    all_goals ((unfold roomC; first | (rw [if_pos (by assumption)]; done) | (rw [if_neg (by assumption)]; done)))
  · skip
    refine tr_skip ?_
    (try simp only [thenE, inBlkE])
    refine hK2 _ ?_
    refine tr_seq fun K5 hK5 => ?_
    refine tr_region [3] rfl rfl fun K hK => ?_
    refine evR_p ?_
    refine evR_e hK ?_; clear hK K
    refine hK5 _ ?_
    refine tr_ret ?_
    (try simp only [thenE, inBlkE])
    simp (maxSteps := 4000000) (disch := first | assumption | omega | (simp only [go_sem, *]; done) | (simp only [go_sem, *]; omega)) only [postA, postO, resV1, fzAll, go_sem, hq, Int.reduceToNat, Nat.reduceBEq, Nat.reduceEqDiff, Nat.reduceAdd, Nat.reduceMul, Nat.reduceLeDiff, Nat.reduceLT, Nat.reduceSub, ↓reduceIte, reduceCtorEq]
    all_goals ((unfold roomC; first | (rw [if_pos (by assumption)]; done) | (rw [if_neg (by assumption)]; done)))

theorem k75 (o : Of) (n : Int) : CallsA Tryd.prog 75 [.agg (encOf o), .ep [.int .i64 n]] (.bool (isP n o)) := by
  have hq : True := trivial
  refine callsA_of_tr Tryd.func75 rfl (Nat.le_of_ble_eq_true rfl) ?_
  simp only [Tryd.results75, envOf, Nat.reduceAdd]
  refine tr_seq fun K1 hK1 => ?_
  refine tr_region [1, 2] rfl rfl fun K hK => ?_
  iterate 2 refine evR_p ?_
  refine evR_e hK ?_; clear hK K
  refine hK1 _ ?_
  refine tr_seq fun K2 hK2 => ?_
  refine tr_region [3] rfl rfl fun K hK => ?_
  iterate 5 refine evR_p ?_
  refine evR_e hK ?_; clear hK K
  refine hK2 _ ?_
  refine tr_ret ?_
  (try simp only [thenE, inBlkE])
  simp (maxSteps := 4000000) (disch := first | assumption | omega | (simp only [go_sem, *]; done) | (simp only [go_sem, *]; omega)) only [postA, postO, resV1, fzAll, go_sem, hq, Int.reduceToNat, Nat.reduceBEq, Nat.reduceEqDiff, Nat.reduceAdd, Nat.reduceMul, Nat.reduceLeDiff, Nat.reduceLT, Nat.reduceSub, ↓reduceIte, reduceCtorEq]
  all_goals (rfl)

theorem k77 (o : Of) (n : Int) : CallsA Tryd.prog 77 [.agg (encOf o), .ep [.int .i64 n]] (.bool (isP n o)) := by
  have hq : True := trivial
  refine callsA_of_tr Tryd.func77 rfl (Nat.le_of_ble_eq_true rfl) ?_
  simp only [Tryd.results77, envOf, Nat.reduceAdd]
  refine tr_seq fun K1 hK1 => ?_
  refine tr_region [1, 2] rfl rfl fun K hK => ?_
  iterate 2 refine evR_p ?_
  refine evR_e hK ?_; clear hK K
  refine hK1 _ ?_
  refine tr_seq fun K2 hK2 => ?_
  refine tr_region [3] rfl rfl fun K hK => ?_
  iterate 5 refine evR_p ?_
  refine evR_e hK ?_; clear hK K
  refine hK2 _ ?_
  refine tr_ret ?_
  (try simp only [thenE, inBlkE])
  simp (maxSteps := 4000000) (disch := first | assumption | omega | (simp only [go_sem, *]; done) | (simp only [go_sem, *]; omega)) only [postA, postO, resV1, fzAll, go_sem, hq, Int.reduceToNat, Nat.reduceBEq, Nat.reduceEqDiff, Nat.reduceAdd, Nat.reduceMul, Nat.reduceLeDiff, Nat.reduceLT, Nat.reduceSub, ↓reduceIte, reduceCtorEq]
  all_goals (rfl)

theorem k76 (o : Of) (k : Nat) (a : P2) : CallsA Tryd.prog 76 [.agg (encOf o), .ep [.int .i64 (k : Nat)], .ep (encP2 a)] (.bool (isA a k o)) := by
  have hq : True := trivial
  refine callsA_of_tr Tryd.func76 rfl (Nat.le_of_ble_eq_true rfl) ?_
  simp only [Tryd.results76, envOf, Nat.reduceAdd]
  refine tr_seq fun K1 hK1 => ?_
  refine tr_region [1, 2, 3] rfl rfl fun K hK => ?_
  iterate 2 refine evR_p ?_
  refine evR_e hK ?_; clear hK K
  refine hK1 _ ?_
  refine tr_seq fun K2 hK2 => ?_
  refine tr_region [4] rfl rfl fun K hK => ?_
  iterate 5 refine evR_p ?_
  iterate 12 refine evR_g ?_
  iterate 2 refine evR_p ?_
  refine evR_e hK ?_; clear hK K
  refine hK2 _ ?_
  refine tr_ret ?_
  (try simp only [thenE, inBlkE])
  simp (maxSteps := 4000000) (disch := first | assumption | omega | (simp only [go_sem, *]; done) | (simp only [go_sem, *]; omega)) only [postA, postO, resV1, fzAll, go_sem, hq, Int.reduceToNat, Nat.reduceBEq, Nat.reduceEqDiff, Nat.reduceAdd, Nat.reduceMul, Nat.reduceLeDiff, Nat.reduceLT, Nat.reduceSub, ↓reduceIte, reduceCtorEq]
  all_goals (simp [isA])

theorem k73 (o : Of) (f : FuncId) (caps : List V) (n : Int) (is : Of → Bool) (hok : okF Tryd.prog f = true) (hcl : V.clL caps = true) (hp : CallsA Tryd.prog f (.agg (encOf o) :: caps) (.bool (is o))) : CallsA Tryd.prog 73 [.agg (encOf o), .ep [.fn f caps], .ep [.int .i64 n]] (.int .i64 (oneC n is o)) := by
  have hq := And.intro hcl (hok)
  refine callsA_of_tr Tryd.func73 rfl (Nat.le_of_ble_eq_true rfl) ?_
  simp only [Tryd.results73, envOf, Nat.reduceAdd]
  refine tr_seq fun K1 hK1 => ?_
  refine tr_region [1, 2, 3] rfl rfl fun K hK => ?_
  iterate 2 refine evR_p ?_
  refine evR_e hK ?_; clear hK K
  refine hK1 _ ?_
  refine tr_seq fun K2 hK2 => ?_
  refine tr_seq fun K3 hK3 => ?_
  refine tr_region [2, 7] rfl rfl fun K hK => ?_
  iterate 2 refine evR_p ?_
  refine evR_c (hc := hp) (k := ?_)
  refine evR_e hK ?_; clear hK K
  refine hK3 _ ?_
  refine tr_condB (fun ht1 => ?_) (fun ht1 => ?_)
  · skip
    refine tr_seq fun K4 hK4 => ?_
    refine tr_region [4] rfl rfl fun K hK => ?_
    iterate 2 refine evR_p ?_
    refine evR_e hK ?_; clear hK K
    refine hK4 _ ?_
    refine tr_ret ?_
    (try simp only [thenE, inBlkE])
    simp (maxSteps := 4000000) (disch := first | assumption | omega | (simp only [go_sem, *]; done) | (simp only [go_sem, *]; omega)) only [postA, postO, resV1, fzAll, go_sem, hq, Int.reduceToNat, Nat.reduceBEq, Nat.reduceEqDiff, Nat.reduceAdd, Nat.reduceMul, Nat.reduceLeDiff, Nat.reduceLT, Nat.reduceSub, ↓reduceIte, reduceCtorEq]
    all_goals ((unfold oneC; first | (rw [if_pos (by assumption)]; done) | (rw [if_neg (by simp [*])]; done)))
  · skip
    refine tr_skip ?_
    (try simp only [thenE, inBlkE])
    refine hK2 _ ?_
    refine tr_seq fun K5 hK5 => ?_
    refine tr_region [4] rfl rfl fun K hK => ?_
    refine evR_p ?_
    refine evR_e hK ?_; clear hK K
    refine hK5 _ ?_
    refine tr_ret ?_
    (try simp only [thenE, inBlkE])
    simp (maxSteps := 4000000) (disch := first | assumption | omega | (simp only [go_sem, *]; done) | (simp only [go_sem, *]; omega)) only [postA, postO, resV1, fzAll, go_sem, hq, Int.reduceToNat, Nat.reduceBEq, Nat.reduceEqDiff, Nat.reduceAdd, Nat.reduceMul, Nat.reduceLeDiff, Nat.reduceLT, Nat.reduceSub, ↓reduceIte, reduceCtorEq]
    all_goals ((unfold oneC; first | (rw [if_pos (by assumption)]; done) | (rw [if_neg (by simp [*])]; done)))

theorem k72 (f : FuncId) (caps : List V) (n : Int) (hcl : V.clL caps = true) : CallsA Tryd.prog 72 [.fn f caps, .int .i64 n] (.fn 73 [.ep [.fn f caps], .ep [.int .i64 n]]) := by
  have hfz := fun id o => V.fzL_cl id o caps hcl
  have hq := And.intro hcl (hfz)
  refine callsA_of_tr Tryd.func72 rfl (Nat.le_of_ble_eq_true rfl) ?_
  simp only [Tryd.results72, envOf, Nat.reduceAdd]
  refine tr_seq fun K1 hK1 => ?_
  refine tr_region [2, 3] rfl rfl fun K hK => ?_
  iterate 3 refine evR_p ?_
  refine evR_e hK ?_; clear hK K
  refine hK1 _ ?_
  refine tr_seq fun K2 hK2 => ?_
  refine tr_fz [.ptr 0 0, .ptr 1 0] (by simp (maxSteps := 4000000) (disch := first | assumption | omega | (simp only [go_sem, *]; done) | (simp only [go_sem, *]; omega)) only [go_sem, hq, Int.reduceToNat, Nat.reduceBEq, Nat.reduceEqDiff, Nat.reduceAdd, Nat.reduceMul, Nat.reduceLeDiff, Nat.reduceLT, Nat.reduceSub, ↓reduceIte, reduceCtorEq]; (try rfl)) ?_
  refine tr_region [4] rfl rfl fun K hK => ?_
  iterate 2 refine evR_p ?_
  refine evR_e hK ?_; clear hK K
  refine hK2 _ ?_
  refine tr_ret ?_
  (try simp only [thenE, inBlkE])
  simp (maxSteps := 4000000) (disch := first | assumption | omega | (simp only [go_sem, *]; done) | (simp only [go_sem, *]; omega)) only [postA, postO, resV1, fzAll, go_sem, hq, Int.reduceToNat, Nat.reduceBEq, Nat.reduceEqDiff, Nat.reduceAdd, Nat.reduceMul, Nat.reduceLeDiff, Nat.reduceLT, Nat.reduceSub, ↓reduceIte, reduceCtorEq]
  all_goals (rfl)

theorem k71 (a : List Rw) (r : Rw) (hl : a.length ≤ 1000) : CallsM Tryd.prog 71 [.sl 6 (encR [r]), .ptr 0 0] ([(1, .row 73 6 (encR a)), (0, .cells [.own 1])]) (2) (.tup []) ([(2, .row 73 6 (encR (a ++ [r]))), (0, .cells [.own 2])]) (3) := by
  have hq : True := trivial
  refine callsM_of_tr Tryd.func71 rfl (Nat.le_of_ble_eq_true rfl) (Nat.le_of_ble_eq_true rfl) (Nat.le_of_ble_eq_true rfl) ?_
  simp only [Tryd.results71, envOf, gh, gv, List.cons_append, List.nil_append, Nat.reduceAdd]
  refine tr_region [1000000, 1000001] rfl rfl fun K hK => ?_
  iterate 4 refine evR_p ?_
  refine evR_e hK ?_; clear hK K
  all_goals first | refine ⟨_, Wk.refl _, ?_⟩
  simp (maxSteps := 4000000) (disch := first | assumption | omega | (simp only [go_sem, *]; done) | (simp only [go_sem, *]; omega)) only [postM, ghOK, gv, St.ren, St.cut, V.ren, V.renL, AObj.ren, Nat.blt_eq, resV1, go_sem, hq, Int.reduceToNat, Nat.reduceBEq, Nat.reduceEqDiff, Nat.reduceAdd, Nat.reduceMul, Nat.reduceLeDiff, Nat.reduceLT, Nat.reduceSub, ↓reduceIte, reduceCtorEq]
  all_goals ((rw [show encR (a ++ [r]) = encR a ++ encR [r] by simp [encR]]))

section
attribute [local go_sem] encI_rep encI_set
theorem k70 (h : Hr) (hol : h.offers.length ≤ 12) (kd a b pl most : Int) (g : FuncId) (caps : List V) (c : Of → Int) (hok : okF Tryd.prog g = true) (hcl : V.clL caps = true) (hp : ∀ o ∈ h.offers, CallsA Tryd.prog g (.agg (encOf o) :: caps) (.int .i64 (c o))) : CallsA Tryd.prog 70 [.agg [.int .i64 kd, .int .i64 a, .int .i64 b, .int .i64 pl, .nsl, .int .i64 most], .fn g caps, .ep (encHr h)] (.tup [.agg (encRw ⟨kd, a, b, pl, coefF h c, most⟩), .int .i64 (nzF h c : Nat)]) := by
  have hq := And.intro hcl (hok)
  refine callsA_of_tr Tryd.func70 rfl (Nat.le_of_ble_eq_true rfl) ?_
  simp only [Tryd.results70, envOf, Nat.reduceAdd]
  refine tr_seq fun K1 hK1 => ?_
  refine tr_region [1, 2, 3, 5] rfl rfl fun K hK => ?_
  iterate 3 refine evR_p ?_
  refine evR_e hK ?_; clear hK K
  refine hK1 _ ?_
  refine tr_seq fun K2 hK2 => ?_
  refine tr_region [1, 2, 3, 5, 7] rfl rfl fun K hK => ?_
  refine evR_p ?_
  refine evR_e hK ?_; clear hK K
  refine hK2 _ ?_
  refine tr_seq fun K3 hK3 => ?_
  refine tr_region [1, 2, 3, 5, 7] rfl rfl fun K hK => ?_
  iterate 6 refine evR_p ?_
  refine evR_e hK ?_; clear hK K
  refine hK3 _ ?_
  refine tr_seq fun K4 hK4 => ?_
  refine tr_seq fun K5 hK5 => ?_
  refine tr_region [1, 3, 5, 7, 16, 17, 18] rfl rfl fun K hK => ?_
  iterate 4 refine evR_p ?_
  refine evR_e hK ?_; clear hK K
  refine hK5 _ ?_
  refine tr_block ?_
  -- loop 1: live [1, 3, 5, 7, 16, 17, 18]
  refine tr_loopW (fun m σ => ∃ i : Nat, i + m = h.offers.length ∧ σ = ⟨[(1, .fn g caps), (3, .ptr 0 0), (5, .ptr 1 0), (7, .int .i64 (nzT h c i : Nat)), (16, .sl 4 (encOfs h.offers)), (17, .int .i64 h.offers.length), (18, .int .i64 (i : Nat))], [(2, .row 3 1 (encI (coefP h c i))), (1, .cells [.int .i64 0, .int .i64 0, .int .i64 0, .int .i64 0, .nsl, .int .i64 0]), (0, .cells [.int .i64 kd, .int .i64 a, .int .i64 b, .int .i64 pl, .own 2, .int .i64 most])], 3⟩) (h.offers.length) ?_ ?_
  · exact ⟨_, Wk.refl _, 0, by omega, by rw [coefP_0]; rfl⟩
  · rintro m σ ⟨i, hi, rfl⟩ KL1 hKL1
    refine tr_seq fun K6 hK6 => ?_
    refine tr_region [1, 3, 5, 7, 16, 17, 18, 19] rfl rfl fun K hK => ?_
    refine evR_p ?_
    refine evR_e hK ?_; clear hK K
    refine hK6 _ ?_
    refine tr_seq fun K7 hK7 => ?_
    refine tr_condB (fun ht1 => ?_) (fun ht1 => ?_)
    · skip
      have hil : i < h.offers.length := by omega
      have hcl2 := coefP_length h c (Nat.le_of_lt hil)
      have hset := coefP_set h c hil
      have hgs : (coefP h c (i + 1)).getD i 0 = c (h.offers.getD i of0) := by rw [← hset, getD_set (by omega), if_pos rfl]
      have hnz := nzT_le h c i
      have hcl3 := coefP_length h c (i := i + 1) hil
      replace hq := And.intro hq (And.intro hil (And.intro hcl2 (And.intro hset (And.intro hgs (hcl3)))))
      refine tr_skip ?_
      (try simp only [thenE, inBlkE])
      refine hK7 _ ?_
      refine tr_seq fun K8 hK8 => ?_
      refine tr_block ?_
      refine tr_seq fun K9 hK9 => ?_
      refine tr_region [1, 3, 5, 7, 8, 9, 16, 17, 18] rfl rfl fun K hK => ?_
      iterate 6 refine evR_p ?_
      refine evR_e hK ?_; clear hK K
      refine hK9 _ ?_
      refine tr_seq fun K10 hK10 => ?_
      refine tr_draw [999999] [1, 3, 5, 7, 8, 16, 17, 18] mixed rfl (by kernel_rfl) rfl fun K hK => ?_
      iterate 5 refine evD_p ?_
      refine evD_c (hc := (hp _ (getD_mem hil))) (k := ?_)
      iterate 2 refine evD_p ?_
      refine evD_e hK ?_; clear hK K
      refine hK10 _ ?_
      refine tr_seq fun K11 hK11 => ?_
      refine tr_region [1, 3, 5, 7, 16, 17, 18, 35] rfl rfl fun K hK => ?_
      iterate 6 refine evR_p ?_
      refine evR_e hK ?_; clear hK K
      refine hK11 _ ?_
      refine tr_condB (fun ht2 => ?_) (fun ht2 => ?_)
      · skip
        refine tr_region [1, 3, 5, 7, 16, 17, 18] rfl rfl fun K hK => ?_
        iterate 3 refine evR_p ?_
        refine evR_e hK ?_; clear hK K
        refine hK8 _ ?_
        refine tr_region [1, 3, 5, 7, 16, 17, 18] rfl rfl fun K hK => ?_
        iterate 2 refine evR_p ?_
        refine evR_e hK ?_; clear hK K
        refine hKL1 _ ?_
        exact ⟨m - 1, _, by omega, Wk.cut 3 (by simp [St.cutOK, AObj.upto, V.upto, V.uptoL, cellsI_uptoL, List.all_cons, List.all_nil, List.filter_cons, List.filter_nil, Nat.blt_eq, Nat.reduceLT, Nat.lt_irrefl, decide_true, decide_false, Bool.and_self, Bool.and_true, Bool.true_and, if_true, if_false, ↓reduceIte, Bool.false_eq_true, encHr, encP2, V.uptoL_cl 3 caps hcl]), i + 1, by omega, by (rw [w64 (x := (i : Int) + 1) (by omega)]; first | (rw [w64 (x := ((nzT h c i : Nat) : Int) + 1) (by omega), show nzT h c (i + 1) = nzT h c i + 1 from if_neg (by assumption)]; rfl) | (rw [show nzT h c (i + 1) = nzT h c i from if_pos (by assumption)]; rfl))⟩
      · skip
        refine tr_skip ?_
        (try simp only [thenE, inBlkE])
        refine hK8 _ ?_
        refine tr_region [1, 3, 5, 7, 16, 17, 18] rfl rfl fun K hK => ?_
        iterate 2 refine evR_p ?_
        refine evR_e hK ?_; clear hK K
        refine hKL1 _ ?_
        exact ⟨m - 1, _, by omega, Wk.cut 3 (by simp [St.cutOK, AObj.upto, V.upto, V.uptoL, cellsI_uptoL, List.all_cons, List.all_nil, List.filter_cons, List.filter_nil, Nat.blt_eq, Nat.reduceLT, Nat.lt_irrefl, decide_true, decide_false, Bool.and_self, Bool.and_true, Bool.true_and, if_true, if_false, ↓reduceIte, Bool.false_eq_true, encHr, encP2, V.uptoL_cl 3 caps hcl]), i + 1, by omega, by (rw [w64 (x := (i : Int) + 1) (by omega)]; first | (rw [w64 (x := ((nzT h c i : Nat) : Int) + 1) (by omega), show nzT h c (i + 1) = nzT h c i + 1 from if_neg (by assumption)]; rfl) | (rw [show nzT h c (i + 1) = nzT h c i from if_pos (by assumption)]; rfl))⟩
    · skip
      have hil : i = h.offers.length := by omega
      subst hil
      refine tr_exit ?_
      simp only [thenE, inBlkE, Nat.reduceEqDiff, ↓reduceIte]
      refine hK4 _ ?_
      refine tr_seq fun K12 hK12 => ?_
      refine tr_region [5, 6] rfl rfl fun K hK => ?_
      iterate 4 refine evR_p ?_
      refine evR_e hK ?_; clear hK K
      refine hK12 _ ?_
      refine tr_ret ?_
      (try simp only [thenE, inBlkE])
      simp (maxSteps := 4000000) (disch := first | assumption | omega | (simp only [go_sem, *]; done) | (simp only [go_sem, *]; omega)) only [postA, postO, resV1, fzAll, go_sem, hq, Int.reduceToNat, Nat.reduceBEq, Nat.reduceEqDiff, Nat.reduceAdd, Nat.reduceMul, Nat.reduceLeDiff, Nat.reduceLT, Nat.reduceSub, ↓reduceIte, reduceCtorEq]
      all_goals ((rw [coefP_end, nzT_end]; done))
end

end Go.Proofs.YtaaongcfeldcoaaDoor


namespace Go.Proofs.YtaaongcfeldcoaaDoor
open Go.RowKit
set_option linter.unusedVariables false
set_option linter.unusedSimpArgs false
set_option maxRecDepth 100000
attribute [local go_sem] Nat.zero_add Nat.add_zero Nat.mul_one eq_self ne_eq not_true_eq_false not_false_eq_true decide_true decide_false decide_not Bool.false_eq_true List.filter_cons List.filter_nil true_and and_true beq_false beq_true Bool.not_true Bool.not_false Bool.and_true Bool.true_and Option.getD_some Option.getD_none imp_self implies_true Int.toNat_natCast List.cons_append List.nil_append List.map_cons List.map_nil List.length_cons List.length_nil List.getD_cons_zero List.getD_cons_succ List.drop_zero List.drop_succ_cons List.take_succ_cons List.take_zero
attribute [local go_sem] lowN lowQ lowM isAl appOwn unw appF isE isO stpO notIn St.bare evO evDO isEff stp St.get St.slot St.put List.lookup un unL ofVal gof nth pickV pkB_false pkB_true binV unV loadV idxV fldV partV buildV fillV lenV sliV appV appR rowsV winV V.parts V.okp V.sc Mem.look_cons Mem.look_nil V.cl V.clL AObj.clo fzAll exps St.fz Mem.fz V.fz V.fzL AObj.fz Option.isSome_some Option.isSome_none Bool.or_true Bool.true_or Bool.or_false Bool.false_or false_and and_false false_or or_false arT_112 arT_22 arT_23 arT_27 arT_28 arT_29 arT_33 arT_52 arT_57 arT_65 arT_76 arT_77 arT_84 arT_88 arT_9 arT_95 boolT_133 boolT_29 boolT_3 boolT_36 boolT_4 boolT_70 boolT_92 flatT_133 flatT_29 flatT_3 flatT_36 flatT_4 flatT_70 flatT_92 intT_121 intT_142 intT_144 intT_145 intT_3 intT_5 lay_110 lay_145 lay_22 lay_23 lay_25 lay_27 lay_28 lay_29 lay_3 lay_31 lay_33 lay_35 lay_4 lay_42 lay_51 lay_56 lay_57 lay_59 lay_70 lay_73 lay_77 lay_79 lay_81 lay_83 lay_84 lay_85 lay_88 lay_92 lay_94 lay_95 okF_10 okF_100 okF_101 okF_102 okF_103 okF_104 okF_105 okF_11 okF_12 okF_122 okF_123 okF_124 okF_125 okF_126 okF_127 okF_13 okF_14 okF_15 okF_16 okF_17 okF_18 okF_19 okF_20 okF_21 okF_22 okF_23 okF_24 okF_25 okF_26 okF_27 okF_28 okF_29 okF_3 okF_30 okF_31 okF_32 okF_33 okF_34 okF_35 okF_36 okF_37 okF_38 okF_39 okF_4 okF_40 okF_41 okF_42 okF_43 okF_44 okF_45 okF_46 okF_47 okF_48 okF_49 okF_5 okF_50 okF_51 okF_52 okF_53 okF_54 okF_55 okF_56 okF_57 okF_58 okF_59 okF_6 okF_60 okF_61 okF_62 okF_63 okF_64 okF_65 okF_66 okF_67 okF_68 okF_69 okF_7 okF_70 okF_71 okF_72 okF_73 okF_74 okF_75 okF_76 okF_77 okF_78 okF_79 okF_8 okF_80 okF_81 okF_82 okF_83 okF_84 okF_85 okF_86 okF_87 okF_88 okF_89 okF_9 okF_90 okF_91 okF_92 okF_93 okF_94 okF_95 okF_96 okF_97 okF_98 okF_99 plT_31 plT_35 plT_51 plT_56 plT_59 plT_70 plT_73 plT_90 plT_92 plT_95 slT_112 slT_22 slT_23 slT_27 slT_28 slT_29 slT_33 slT_52 slT_57 slT_65 slT_76 slT_77 slT_88 slT_95 stT_25_0 stT_25_1 stT_25_2 stT_25_3 stT_25_4 stT_31_0 stT_31_1 stT_31_2 stT_31_3 stT_35_0 stT_35_1 stT_35_2 stT_35_3 stT_51_0 stT_51_1 stT_56_0 stT_56_1 stT_56_2 stT_56_3 stT_59_0 stT_59_1 stT_59_2 stT_73_0 stT_73_3 stT_73_4 stT_73_5 stT_79_0 stT_79_1 stT_79_2 stT_83_0 stT_90_0 stT_90_1 stT_90_2 stT_90_3 strT_76 strT_77 strT_84 strT_9 zeroT_112 zeroT_145 zeroT_3 zeroT_31 zeroT_33 zeroT_35 zeroT_42 zeroT_51 zeroT_56 zeroT_57 zeroT_59 zeroT_70 zeroT_73 zeroT_79 zeroT_83 zeroT_90 zeroT_92 zeroT_95
attribute [local go_sem] List.getElem?_cons_zero List.getElem?_cons_succ List.zip_cons_cons List.zip_nil_left List.zip_nil_right Bool.false_and Bool.and_false List.length_append List.length_set List.length_replicate List.all_cons List.all_nil encI_length encI_getD encR_length encR_getD encRw encPg spl shp AObj.shp rowM isSt isRpS isRd csh AObj.csh forall_const imp_self
attribute [local go_sem] encHr encOf encSp encP2 encSps_length encOfs_length encP2s_length encSps_getD encOfs_getD encP2s_getD
attribute [local simp] encI_length encR_length cellsI_length encSps_length encOfs_length encP2s_length
set_option maxHeartbeats 16000000 in
theorem k50 (h : Hr) (hV : VH h) : CallsA Tryd.prog 50 [.agg (encHr h)] (.sl 6 (encR (rowsH h))) := by
  have hrl := hV.rl
  have hol := hV.ol
  have hal := hV.al
  have hml := hV.ml
  have hl2 := onceRs_len h
  have hq : True := trivial
  refine callsA_of_tr Tryd.func50 rfl (Nat.le_of_ble_eq_true rfl) ?_
  simp only [Tryd.results50, envOf, Nat.reduceAdd]
  refine tr_seq fun K1 hK1 => ?_
  refine tr_region [1] rfl rfl fun K hK => ?_
  iterate 2 refine evR_p ?_
  refine evR_e hK ?_; clear hK K
  refine hK1 _ ?_
  refine tr_seq fun K2 hK2 => ?_
  refine tr_fz [.ptr 0 0] (by simp (maxSteps := 4000000) (disch := first | assumption | omega | (simp only [go_sem, *]; done) | (simp only [go_sem, *]; omega)) only [go_sem, hq, Int.reduceToNat, Nat.reduceBEq, Nat.reduceEqDiff, Nat.reduceAdd, Nat.reduceMul, Nat.reduceLeDiff, Nat.reduceLT, Nat.reduceSub, ↓reduceIte, reduceCtorEq]; (try rfl)) ?_
  refine tr_region [1, 3] rfl rfl fun K hK => ?_
  iterate 2 refine evR_p ?_
  refine evR_e hK ?_; clear hK K
  refine hK2 _ ?_
  refine tr_seq fun K3 hK3 => ?_
  refine tr_region [1, 3, 4] rfl rfl fun K hK => ?_
  refine evR_p ?_
  refine evR_e hK ?_; clear hK K
  refine hK3 _ ?_
  refine tr_seq fun K4 hK4 => ?_
  refine tr_region [1, 3, 4, 5] rfl rfl fun K hK => ?_
  iterate 2 refine evR_p ?_
  refine evR_e hK ?_; clear hK K
  refine hK4 _ ?_
  refine tr_seq fun K5 hK5 => ?_
  refine tr_region [1, 3, 4, 5, 6] rfl rfl fun K hK => ?_
  refine evR_p ?_
  refine evR_e hK ?_; clear hK K
  refine hK5 _ ?_
  refine tr_seq fun K6 hK6 => ?_
  refine tr_seq fun K7 hK7 => ?_
  refine tr_region [1, 3, 4, 5, 6, 27, 28, 29] rfl rfl fun K hK => ?_
  iterate 4 refine evR_p ?_
  refine evR_e hK ?_; clear hK K
  refine hK7 _ ?_
  refine tr_block ?_
  -- loop 1: live [1, 3, 4, 5, 6, 27, 28, 29]
  refine tr_loopW (fun m σ => ∃ i : Nat, i + m = h.rooms.length ∧ σ = ⟨[(1, .ep (encHr h)), (3, .fn 70 [.ep (encHr h)]), (4, .ptr 1 0), (5, .fn 71 [.ptr 1 0]), (6, .fn 72 []), (27, .sl 2 (encSps h.rooms)), (28, .int .i64 h.rooms.length), (29, .int .i64 (i : Nat))], [(2, .row 73 6 (encR (roomRs h i))), (1, .cells [.own 2])], 3⟩) (h.rooms.length) ?_ ?_
  · exact ⟨_, Wk.nilown 73 6 1 0 rfl (Nat.le_of_ble_eq_true rfl) rfl, 0, by omega, rfl⟩
  · rintro m σ ⟨i, hi, rfl⟩ KL1 hKL1
    refine tr_seq fun K8 hK8 => ?_
    refine tr_region [1, 3, 4, 5, 6, 27, 28, 29, 30] rfl rfl fun K hK => ?_
    refine evR_p ?_
    refine evR_e hK ?_; clear hK K
    refine hK8 _ ?_
    refine tr_seq fun K9 hK9 => ?_
    refine tr_condB (fun ht1 => ?_) (fun ht1 => ?_)
    · skip
      have hil : i < h.rooms.length := by omega
      have hrm := hV.rm i hil
      have hw : IntKind.i64.wrap ((h.rooms.getD i sp0).to - (h.rooms.getD i sp0).fr) = (h.rooms.getD i sp0).to - (h.rooms.getD i sp0).fr := w64 (by omega)
      replace hq := And.intro hq (And.intro hil (hw))
      refine tr_skip ?_
      (try simp only [thenE, inBlkE])
      refine hK9 _ ?_
      refine tr_seq fun K10 hK10 => ?_
      refine tr_block ?_
      refine tr_seq fun K11 hK11 => ?_
      refine tr_region [1, 3, 4, 5, 6, 7, 8, 27, 28, 29] rfl rfl fun K hK => ?_
      iterate 7 refine evR_p ?_
      refine evR_e hK ?_; clear hK K
      refine hK11 _ ?_
      refine tr_seq fun K12 hK12 => ?_
      refine tr_fz [.ptr 3 0] (by simp (maxSteps := 4000000) (disch := first | assumption | omega | (simp only [go_sem, *]; done) | (simp only [go_sem, *]; omega)) only [go_sem, hq, Int.reduceToNat, Nat.reduceBEq, Nat.reduceEqDiff, Nat.reduceAdd, Nat.reduceMul, Nat.reduceLeDiff, Nat.reduceLT, Nat.reduceSub, ↓reduceIte, reduceCtorEq]; (try rfl)) ?_
      refine tr_region [1, 3, 4, 5, 6, 9, 27, 28, 29] rfl rfl fun K hK => ?_
      iterate 11 refine evR_p ?_
      refine evR_c (hc := (k70 h hol 1 (i : Nat) 0 _ _ 74 [.ep [.int .i64 (i : Nat)]] (roomC i) okF_74 rfl (fun o _ => k74 o i))) (k := ?_)
      iterate 6 refine evR_p ?_
      refine evR_e hK ?_; clear hK K
      refine hK12 _ ?_
      refine tr_region [1, 3, 4, 5, 6, 27, 28, 29] rfl rfl fun K hK => ?_
      iterate 2 refine evR_p ?_
      refine evR_bs ?_
      refine evR_stepX fun Kq hKq => Or.inr ?_
      simp (maxSteps := 4000000) (disch := first | assumption | omega | (simp only [go_sem, *]; done) | (simp only [go_sem, *]; omega)) only [stpM, go_sem, hq, Int.reduceToNat, Nat.reduceBEq, Nat.reduceEqDiff, Nat.reduceAdd, Nat.reduceMul, Nat.reduceLeDiff, Nat.reduceLT, Nat.reduceSub, ↓reduceIte, reduceCtorEq]
      refine ⟨[1, 2], ?_⟩
      simp (maxSteps := 4000000) (disch := first | assumption | omega | (simp only [go_sem, *]; done) | (simp only [go_sem, *]; omega)) only [V.mapL, V.map, gJ, footJ, inJ, AObj.map, ndJ, ltJ, V.domL, V.dom, AObj.dom, kC, kR, AObj.isC, hJ, backJ, List.any_cons, List.any_nil, Nat.ble_eq, Nat.blt_eq, Nat.reduceLT, Nat.reduceLeDiff, Bool.or_true, Bool.true_or, Bool.or_false, Bool.false_or, Bool.and_self, go_sem, hq, Int.reduceToNat, Nat.reduceBEq, Nat.reduceEqDiff, Nat.reduceAdd, Nat.reduceMul, Nat.reduceLeDiff, Nat.reduceLT, Nat.reduceSub, ↓reduceIte, reduceCtorEq]
      refine ⟨_, _, _, (k71 (roomRs h i) (roomR h i) (by rw [roomRs_len]; omega)), ?_⟩
      simp (maxSteps := 4000000) (disch := first | assumption | omega | (simp only [go_sem, *]; done) | (simp only [go_sem, *]; omega)) only [V.mapL, V.map, gJ, footJ, inJ, AObj.map, ndJ, ltJ, V.domL, V.dom, AObj.dom, kC, kR, AObj.isC, hJ, backJ, List.any_cons, List.any_nil, Nat.ble_eq, Nat.blt_eq, Nat.reduceLT, Nat.reduceLeDiff, Bool.or_true, Bool.true_or, Bool.or_false, Bool.false_or, Bool.and_self, go_sem, hq, Int.reduceToNat, Nat.reduceBEq, Nat.reduceEqDiff, Nat.reduceAdd, Nat.reduceMul, Nat.reduceLeDiff, Nat.reduceLT, Nat.reduceSub, ↓reduceIte, reduceCtorEq]
      (repeat (refine And.intro (by first | assumption | omega | decide | (simp; done) | (simp; omega) | (have hq := hvv hgt; omega) | (have hq := hvv hgt.1; omega) | (simp_all; done)) ?_))
      refine hKq _ ?_; clear hKq Kq
      refine evR_e hK ?_; clear hK K
      refine hK10 _ ?_
      refine tr_region [1, 3, 4, 5, 6, 27, 28, 29] rfl rfl fun K hK => ?_
      iterate 2 refine evR_p ?_
      refine evR_e hK ?_; clear hK K
      refine hKL1 _ ?_
      exact ⟨m - 1, _, by omega, (Wk.trans (Wk.ren 6 2 (Nat.le_of_ble_eq_true rfl) (Nat.le_of_ble_eq_true rfl) rfl) (Wk.cut 3 rfl)), i + 1, by omega, by rw [w64 (x := (i : Int) + 1) (by omega), roomRs_s]; rfl⟩
    · skip
      have hil : i = h.rooms.length := by omega
      subst hil
      refine tr_exit ?_
      simp only [thenE, inBlkE, Nat.reduceEqDiff, ↓reduceIte]
      refine hK6 _ ?_
      refine tr_seq fun K13 hK13 => ?_
      refine tr_seq fun K14 hK14 => ?_
      refine tr_region [1, 3, 4, 5, 6, 54] rfl rfl fun K hK => ?_
      refine evR_p ?_
      refine evR_e hK ?_; clear hK K
      refine hK14 _ ?_
      refine tr_block ?_
      -- loop 2: live [1, 3, 4, 5, 6, 54]
      refine tr_loopW (fun m σ => ∃ k : Nat, k + m = 12 ∧ σ = ⟨[(1, .ep (encHr h)), (3, .fn 70 [.ep (encHr h)]), (4, .ptr 1 0), (5, .fn 71 [.ptr 1 0]), (6, .fn 72 []), (54, .int .i64 (k : Nat))], [(2, .row 73 6 (encR (roomRs h h.rooms.length ++ onceRs h k))), (1, .cells [.own 2])], 3⟩) (12) ?_ ?_
      · exact ⟨_, Wk.refl _, 0, by omega, by rw [show onceRs h 0 = [] from rfl, List.append_nil]; rfl⟩
      · rintro m2 σ ⟨k, hk, rfl⟩ KL2 hKL2
        refine tr_seq fun K15 hK15 => ?_
        refine tr_region [1, 3, 4, 5, 6, 54, 55] rfl rfl fun K hK => ?_
        refine evR_p ?_
        refine evR_e hK ?_; clear hK K
        refine hK15 _ ?_
        refine tr_seq fun K16 hK16 => ?_
        refine tr_condB (fun ht2 => ?_) (fun ht2 => ?_)
        · skip
          have hkl : k < 12 := by omega
          replace hq := And.intro hq (hkl)
          refine tr_skip ?_
          (try simp only [thenE, inBlkE])
          refine hK16 _ ?_
          refine tr_seq fun K17 hK17 => ?_
          refine tr_block ?_
          refine tr_seq fun K18 hK18 => ?_
          refine tr_region [1, 3, 4, 5, 6, 11, 54] rfl rfl fun K hK => ?_
          iterate 3 refine evR_p ?_
          refine evR_e hK ?_; clear hK K
          refine hK18 _ ?_
          refine tr_seq fun K19 hK19 => ?_
          refine tr_fz [.ptr 3 0] (by simp (maxSteps := 4000000) (disch := first | assumption | omega | (simp only [go_sem, *]; done) | (simp only [go_sem, *]; omega)) only [go_sem, hq, Int.reduceToNat, Nat.reduceBEq, Nat.reduceEqDiff, Nat.reduceAdd, Nat.reduceMul, Nat.reduceLeDiff, Nat.reduceLT, Nat.reduceSub, ↓reduceIte, reduceCtorEq]; (try rfl)) ?_
          refine tr_draw [59] [1, 3, 4, 5, 6, 12, 13, 54] mixed rfl (by kernel_rfl) rfl fun K hK => ?_
          iterate 5 refine evD_p ?_
          refine evD_c (hc := (k72 75 [.ep [.int .i64 (k : Nat)]] 1 rfl)) (k := ?_)
          refine evD_c (hc := (k70 h hol 2 (k : Nat) 0 0 1 73 [.ep [.fn 75 [.ep [.int .i64 (k : Nat)]]], .ep [.int .i64 1]] (oneC 1 (isP (k : Nat))) okF_73 rfl (fun o _ => k73 o 75 [.ep [.int .i64 (k : Nat)]] 1 (isP (k : Nat)) okF_75 rfl (k75 o (k : Nat))))) (k := ?_)
          iterate 6 refine evD_p ?_
          refine evD_e hK ?_; clear hK K
          refine hK19 _ ?_
          refine tr_seq fun K20 hK20 => ?_
          refine tr_region [1, 3, 4, 5, 6, 12, 54, 68] rfl rfl fun K hK => ?_
          iterate 2 refine evR_p ?_
          refine evR_e hK ?_; clear hK K
          refine hK20 _ ?_
          refine tr_condB (fun ht3 => ?_) (fun ht3 => ?_)
          · skip
            refine tr_region [1, 3, 4, 5, 6, 54] rfl rfl fun K hK => ?_
            iterate 2 refine evR_p ?_
            refine evR_bs ?_
            refine evR_stepX fun Kq hKq => Or.inr ?_
            simp (maxSteps := 4000000) (disch := first | assumption | omega | (simp only [go_sem, *]; done) | (simp only [go_sem, *]; omega)) only [stpM, go_sem, hq, Int.reduceToNat, Nat.reduceBEq, Nat.reduceEqDiff, Nat.reduceAdd, Nat.reduceMul, Nat.reduceLeDiff, Nat.reduceLT, Nat.reduceSub, ↓reduceIte, reduceCtorEq]
            refine ⟨[1, 2], ?_⟩
            simp (maxSteps := 4000000) (disch := first | assumption | omega | (simp only [go_sem, *]; done) | (simp only [go_sem, *]; omega)) only [V.mapL, V.map, gJ, footJ, inJ, AObj.map, ndJ, ltJ, V.domL, V.dom, AObj.dom, kC, kR, AObj.isC, hJ, backJ, List.any_cons, List.any_nil, Nat.ble_eq, Nat.blt_eq, Nat.reduceLT, Nat.reduceLeDiff, Bool.or_true, Bool.true_or, Bool.or_false, Bool.false_or, Bool.and_self, go_sem, hq, Int.reduceToNat, Nat.reduceBEq, Nat.reduceEqDiff, Nat.reduceAdd, Nat.reduceMul, Nat.reduceLeDiff, Nat.reduceLT, Nat.reduceSub, ↓reduceIte, reduceCtorEq]
            refine ⟨_, _, _, (k71 (roomRs h h.rooms.length ++ onceRs h k) (onceR h k) (by have := hl2 k; rw [List.length_append, roomRs_len]; omega)), ?_⟩
            simp (maxSteps := 4000000) (disch := first | assumption | omega | (simp only [go_sem, *]; done) | (simp only [go_sem, *]; omega)) only [V.mapL, V.map, gJ, footJ, inJ, AObj.map, ndJ, ltJ, V.domL, V.dom, AObj.dom, kC, kR, AObj.isC, hJ, backJ, List.any_cons, List.any_nil, Nat.ble_eq, Nat.blt_eq, Nat.reduceLT, Nat.reduceLeDiff, Bool.or_true, Bool.true_or, Bool.or_false, Bool.false_or, Bool.and_self, go_sem, hq, Int.reduceToNat, Nat.reduceBEq, Nat.reduceEqDiff, Nat.reduceAdd, Nat.reduceMul, Nat.reduceLeDiff, Nat.reduceLT, Nat.reduceSub, ↓reduceIte, reduceCtorEq]
            (repeat (refine And.intro (by first | assumption | omega | decide | (simp; done) | (simp; omega) | (have hq := hvv hgt; omega) | (have hq := hvv hgt.1; omega) | (simp_all; done)) ?_))
            refine hKq _ ?_; clear hKq Kq
            refine evR_e hK ?_; clear hK K
            refine hK17 _ ?_
            refine tr_region [1, 3, 4, 5, 6, 54] rfl rfl fun K hK => ?_
            iterate 2 refine evR_p ?_
            refine evR_e hK ?_; clear hK K
            refine hKL2 _ ?_
            first | exact ⟨m2 - 1, _, by omega, (Wk.trans (Wk.ren 5 2 (Nat.le_of_ble_eq_true rfl) (Nat.le_of_ble_eq_true rfl) rfl) (Wk.cut 3 rfl)), k + 1, by omega, by rw [w64 (x := (k : Int) + 1) (by omega), onceRs_t ht3, ← List.append_assoc]; rfl⟩ | exact ⟨m2 - 1, _, by omega, Wk.cut 3 rfl, k + 1, by omega, by rw [w64 (x := (k : Int) + 1) (by omega), onceRs_f ht3]; rfl⟩
          · skip
            refine tr_skip ?_
            (try simp only [thenE, inBlkE])
            refine hK17 _ ?_
            refine tr_region [1, 3, 4, 5, 6, 54] rfl rfl fun K hK => ?_
            iterate 2 refine evR_p ?_
            refine evR_e hK ?_; clear hK K
            refine hKL2 _ ?_
            first | exact ⟨m2 - 1, _, by omega, (Wk.trans (Wk.ren 5 2 (Nat.le_of_ble_eq_true rfl) (Nat.le_of_ble_eq_true rfl) rfl) (Wk.cut 3 rfl)), k + 1, by omega, by rw [w64 (x := (k : Int) + 1) (by omega), onceRs_t ht3, ← List.append_assoc]; rfl⟩ | exact ⟨m2 - 1, _, by omega, Wk.cut 3 rfl, k + 1, by omega, by rw [w64 (x := (k : Int) + 1) (by omega), onceRs_f ht3]; rfl⟩
        · skip
          have hkl : k = 12 := by omega
          subst hkl
          refine tr_exit ?_
          simp only [thenE, inBlkE, Nat.reduceEqDiff, ↓reduceIte]
          refine hK13 _ ?_
          refine tr_seq fun K21 hK21 => ?_
          refine tr_seq fun K22 hK22 => ?_
          refine tr_region [1, 3, 4, 5, 6, 75, 76, 77] rfl rfl fun K hK => ?_
          iterate 4 refine evR_p ?_
          refine evR_e hK ?_; clear hK K
          refine hK22 _ ?_
          refine tr_block ?_
          -- loop 3: live [1, 3, 4, 5, 6, 75, 76, 77]
          refine tr_loopW (fun m σ => ∃ i : Nat, i + m = h.apart.length ∧ σ = ⟨[(1, .ep (encHr h)), (3, .fn 70 [.ep (encHr h)]), (4, .ptr 1 0), (5, .fn 71 [.ptr 1 0]), (6, .fn 72 []), (75, .sl 2 (encP2s h.apart)), (76, .int .i64 h.apart.length), (77, .int .i64 (i : Nat))], [(2, .row 73 6 (encR ((roomRs h h.rooms.length ++ onceRs h 12) ++ apartsRs h i))), (1, .cells [.own 2])], 3⟩) (h.apart.length) ?_ ?_
          · exact ⟨_, Wk.refl _, 0, by omega, by rw [show apartsRs h 0 = [] from rfl, List.append_nil]; rfl⟩
          · rintro m3 σ ⟨i, hi, rfl⟩ KL3 hKL3
            refine tr_seq fun K23 hK23 => ?_
            refine tr_region [1, 3, 4, 5, 6, 75, 76, 77, 78] rfl rfl fun K hK => ?_
            refine evR_p ?_
            refine evR_e hK ?_; clear hK K
            refine hK23 _ ?_
            refine tr_seq fun K24 hK24 => ?_
            refine tr_condB (fun ht4 => ?_) (fun ht4 => ?_)
            · skip
              have hil : i < h.apart.length := by omega
              obtain ⟨a, hA⟩ : ∃ a, h.apart.getD i p20 = a := ⟨_, rfl⟩
              have hap := apartsRs_len h i
              have hmm : i * h.rooms.length ≤ 12 * 6 := Nat.mul_le_mul (by omega) hrl
              replace hq := And.intro hq (And.intro hil (hA))
              refine tr_skip ?_
              (try simp only [thenE, inBlkE])
              refine hK24 _ ?_
              refine tr_seq fun K25 hK25 => ?_
              refine tr_block ?_
              refine tr_seq fun K26 hK26 => ?_
              refine tr_region [1, 3, 4, 5, 6, 15, 75, 76, 77] rfl rfl fun K hK => ?_
              iterate 4 refine evR_p ?_
              refine evR_e hK ?_; clear hK K
              refine hK26 _ ?_
              refine tr_seq fun K27 hK27 => ?_
              refine tr_fz [.ptr 3 0] (by simp (maxSteps := 4000000) (disch := first | assumption | omega | (simp only [go_sem, *]; done) | (simp only [go_sem, *]; omega)) only [go_sem, hq, Int.reduceToNat, Nat.reduceBEq, Nat.reduceEqDiff, Nat.reduceAdd, Nat.reduceMul, Nat.reduceLeDiff, Nat.reduceLT, Nat.reduceSub, ↓reduceIte, reduceCtorEq]; (try rfl)) ?_
              refine tr_region [1, 3, 4, 5, 6, 15, 75, 76, 77, 82, 83, 84] rfl rfl fun K hK => ?_
              iterate 4 refine evR_p ?_
              refine evR_e hK ?_; clear hK K
              refine hK27 _ ?_
              refine tr_block ?_
              -- loop 4: live [1, 3, 4, 5, 6, 15, 75, 76, 77, 82, 83, 84]
              refine tr_loopW (fun m σ => ∃ k : Nat, k + m = h.rooms.length ∧ σ = ⟨[(1, .ep (encHr h)), (3, .fn 70 [.ep (encHr h)]), (4, .ptr 1 0), (5, .fn 71 [.ptr 1 0]), (6, .fn 72 []), (15, .ep (encP2 a)), (75, .sl 2 (encP2s h.apart)), (76, .int .i64 h.apart.length), (77, .int .i64 (i : Nat)), (82, .sl 2 (encSps h.rooms)), (83, .int .i64 h.rooms.length), (84, .int .i64 (k : Nat))], [(2, .row 73 6 (encR ((roomRs h h.rooms.length ++ onceRs h 12) ++ (apartsRs h i ++ apartRs h a k)))), (1, .cells [.own 2])], 4⟩) (h.rooms.length) ?_ ?_
              · exact ⟨_, Wk.refl _, 0, by omega, by rw [show apartRs h a 0 = [] from rfl, List.append_nil]; rfl⟩
              · rintro m4 σ ⟨k, hk, rfl⟩ KL4 hKL4
                refine tr_seq fun K28 hK28 => ?_
                refine tr_region [1, 3, 4, 5, 6, 15, 75, 76, 77, 82, 83, 84, 85] rfl rfl fun K hK => ?_
                refine evR_p ?_
                refine evR_e hK ?_; clear hK K
                refine hK28 _ ?_
                refine tr_seq fun K29 hK29 => ?_
                refine tr_condB (fun ht5 => ?_) (fun ht5 => ?_)
                · skip
                  have hkl : k < h.rooms.length := by omega
                  have hap2 := apartRs_len h a k
                  have hl12 := hl2 12
                  have hla : ((roomRs h h.rooms.length ++ onceRs h 12) ++ (apartsRs h i ++ apartRs h a k)).length ≤ 1000 := by simp only [List.length_append, roomRs_len]; omega
                  replace hq := And.intro hq (hkl)
                  refine tr_skip ?_
                  (try simp only [thenE, inBlkE])
                  refine hK29 _ ?_
                  refine tr_seq fun K30 hK30 => ?_
                  refine tr_block ?_
                  refine tr_seq fun K31 hK31 => ?_
                  refine tr_region [1, 3, 4, 5, 6, 15, 16, 17, 75, 76, 77, 82, 83, 84] rfl rfl fun K hK => ?_
                  iterate 7 refine evR_p ?_
                  refine evR_e hK ?_; clear hK K
                  refine hK31 _ ?_
                  refine tr_seq fun K32 hK32 => ?_
                  refine tr_fz [.ptr 4 0, .ptr 5 0] (by simp (maxSteps := 4000000) (disch := first | assumption | omega | (simp only [go_sem, *]; done) | (simp only [go_sem, *]; omega)) only [go_sem, hq, Int.reduceToNat, Nat.reduceBEq, Nat.reduceEqDiff, Nat.reduceAdd, Nat.reduceMul, Nat.reduceLeDiff, Nat.reduceLT, Nat.reduceSub, ↓reduceIte, reduceCtorEq]; (try rfl)) ?_
                  refine tr_draw [91, 92, 93, 94, 96] [1, 3, 4, 5, 6, 15, 18, 19, 75, 76, 77, 82, 83, 84] mixed rfl (by kernel_rfl) rfl fun K hK => ?_
                  iterate 10 refine evD_p ?_
                  refine evD_c (hc := (k72 76 [.ep [.int .i64 (k : Nat)], .ep (encP2 a)] 1 rfl)) (k := ?_)
                  refine evD_c (hc := (k70 h hol 3 a.a a.b _ 1 73 [.ep [.fn 76 [.ep [.int .i64 (k : Nat)], .ep (encP2 a)]], .ep [.int .i64 1]] (oneC 1 (isA a k)) okF_73 rfl (fun o _ => k73 o 76 [.ep [.int .i64 (k : Nat)], .ep (encP2 a)] 1 (isA a k) okF_76 rfl (k76 o k a)))) (k := ?_)
                  iterate 6 refine evD_p ?_
                  refine evD_e hK ?_; clear hK K
                  refine hK32 _ ?_
                  refine tr_seq fun K33 hK33 => ?_
                  refine tr_region [1, 3, 4, 5, 6, 15, 18, 75, 76, 77, 82, 83, 84, 105] rfl rfl fun K hK => ?_
                  iterate 2 refine evR_p ?_
                  refine evR_e hK ?_; clear hK K
                  refine hK33 _ ?_
                  refine tr_condB (fun ht6 => ?_) (fun ht6 => ?_)
                  · skip
                    refine tr_region [1, 3, 4, 5, 6, 15, 75, 76, 77, 82, 83, 84] rfl rfl fun K hK => ?_
                    iterate 2 refine evR_p ?_
                    refine evR_bs ?_
                    refine evR_stepX fun Kq hKq => Or.inr ?_
                    simp (maxSteps := 4000000) (disch := first | assumption | omega | (simp only [go_sem, *]; done) | (simp only [go_sem, *]; omega)) only [stpM, go_sem, hq, Int.reduceToNat, Nat.reduceBEq, Nat.reduceEqDiff, Nat.reduceAdd, Nat.reduceMul, Nat.reduceLeDiff, Nat.reduceLT, Nat.reduceSub, ↓reduceIte, reduceCtorEq]
                    refine ⟨[1, 2], ?_⟩
                    simp (maxSteps := 4000000) (disch := first | assumption | omega | (simp only [go_sem, *]; done) | (simp only [go_sem, *]; omega)) only [V.mapL, V.map, gJ, footJ, inJ, AObj.map, ndJ, ltJ, V.domL, V.dom, AObj.dom, kC, kR, AObj.isC, hJ, backJ, List.any_cons, List.any_nil, Nat.ble_eq, Nat.blt_eq, Nat.reduceLT, Nat.reduceLeDiff, Bool.or_true, Bool.true_or, Bool.or_false, Bool.false_or, Bool.and_self, go_sem, hq, Int.reduceToNat, Nat.reduceBEq, Nat.reduceEqDiff, Nat.reduceAdd, Nat.reduceMul, Nat.reduceLeDiff, Nat.reduceLT, Nat.reduceSub, ↓reduceIte, reduceCtorEq]
                    refine ⟨_, _, _, (k71 ((roomRs h h.rooms.length ++ onceRs h 12) ++ (apartsRs h i ++ apartRs h a k)) (apartR h a k) hla), ?_⟩
                    simp (maxSteps := 4000000) (disch := first | assumption | omega | (simp only [go_sem, *]; done) | (simp only [go_sem, *]; omega)) only [V.mapL, V.map, gJ, footJ, inJ, AObj.map, ndJ, ltJ, V.domL, V.dom, AObj.dom, kC, kR, AObj.isC, hJ, backJ, List.any_cons, List.any_nil, Nat.ble_eq, Nat.blt_eq, Nat.reduceLT, Nat.reduceLeDiff, Bool.or_true, Bool.true_or, Bool.or_false, Bool.false_or, Bool.and_self, go_sem, hq, Int.reduceToNat, Nat.reduceBEq, Nat.reduceEqDiff, Nat.reduceAdd, Nat.reduceMul, Nat.reduceLeDiff, Nat.reduceLT, Nat.reduceSub, ↓reduceIte, reduceCtorEq]
                    (repeat (refine And.intro (by first | assumption | omega | decide | (simp; done) | (simp; omega) | (have hq := hvv hgt; omega) | (have hq := hvv hgt.1; omega) | (simp_all; done)) ?_))
                    refine hKq _ ?_; clear hKq Kq
                    refine evR_e hK ?_; clear hK K
                    refine hK30 _ ?_
                    refine tr_region [1, 3, 4, 5, 6, 15, 75, 76, 77, 82, 83, 84] rfl rfl fun K hK => ?_
                    iterate 2 refine evR_p ?_
                    refine evR_e hK ?_; clear hK K
                    refine hKL4 _ ?_
                    first | exact ⟨m4 - 1, _, by omega, (Wk.trans (Wk.ren 7 2 (Nat.le_of_ble_eq_true rfl) (Nat.le_of_ble_eq_true rfl) rfl) (Wk.cut 4 rfl)), k + 1, by omega, by rw [w64 (x := (k : Int) + 1) (by omega), apartRs_t ht6, app3]; rfl⟩ | exact ⟨m4 - 1, _, by omega, Wk.cut 4 rfl, k + 1, by omega, by rw [w64 (x := (k : Int) + 1) (by omega), apartRs_f ht6]; rfl⟩
                  · skip
                    refine tr_skip ?_
                    (try simp only [thenE, inBlkE])
                    refine hK30 _ ?_
                    refine tr_region [1, 3, 4, 5, 6, 15, 75, 76, 77, 82, 83, 84] rfl rfl fun K hK => ?_
                    iterate 2 refine evR_p ?_
                    refine evR_e hK ?_; clear hK K
                    refine hKL4 _ ?_
                    first | exact ⟨m4 - 1, _, by omega, (Wk.trans (Wk.ren 7 2 (Nat.le_of_ble_eq_true rfl) (Nat.le_of_ble_eq_true rfl) rfl) (Wk.cut 4 rfl)), k + 1, by omega, by rw [w64 (x := (k : Int) + 1) (by omega), apartRs_t ht6, app3]; rfl⟩ | exact ⟨m4 - 1, _, by omega, Wk.cut 4 rfl, k + 1, by omega, by rw [w64 (x := (k : Int) + 1) (by omega), apartRs_f ht6]; rfl⟩
                · skip
                  have hkl : k = h.rooms.length := by omega
                  subst hkl
                  refine tr_exit ?_
                  simp only [thenE, inBlkE, Nat.reduceEqDiff, ↓reduceIte]
                  refine hK25 _ ?_
                  refine tr_region [1, 3, 4, 5, 6, 75, 76, 77] rfl rfl fun K hK => ?_
                  iterate 2 refine evR_p ?_
                  refine evR_e hK ?_; clear hK K
                  refine hKL3 _ ?_
                  exact ⟨m3 - 1, _, by omega, Wk.cut 3 rfl, i + 1, by omega, by rw [w64 (x := (i : Int) + 1) (by omega), show apartsRs h (i + 1) = apartsRs h i ++ apartRs h (h.apart.getD i p20) h.rooms.length from rfl, hA]; rfl⟩
            · skip
              have hil : i = h.apart.length := by omega
              subst hil
              refine tr_exit ?_
              simp only [thenE, inBlkE, Nat.reduceEqDiff, ↓reduceIte]
              refine hK21 _ ?_
              refine tr_seq fun K34 hK34 => ?_
              refine tr_seq fun K35 hK35 => ?_
              refine tr_region [3, 4, 5, 6, 113, 114, 115] rfl rfl fun K hK => ?_
              iterate 4 refine evR_p ?_
              refine evR_e hK ?_; clear hK K
              refine hK35 _ ?_
              refine tr_block ?_
              -- loop 5: live [3, 4, 5, 6, 113, 114, 115]
              refine tr_loopW (fun m σ => ∃ i : Nat, i + m = h.must.length ∧ σ = ⟨[(3, .fn 70 [.ep (encHr h)]), (4, .ptr 1 0), (5, .fn 71 [.ptr 1 0]), (6, .fn 72 []), (113, .sl 1 (encI h.must)), (114, .int .i64 h.must.length), (115, .int .i64 (i : Nat))], [(2, .row 73 6 (encR ((roomRs h h.rooms.length ++ onceRs h 12) ++ (apartsRs h h.apart.length ++ mustRs h i)))), (1, .cells [.own 2])], 3⟩) (h.must.length) ?_ ?_
              · exact ⟨_, Wk.refl _, 0, by omega, by rw [show mustRs h 0 = [] from rfl, List.append_nil]; rfl⟩
              · rintro m5 σ ⟨i, hi, rfl⟩ KL5 hKL5
                refine tr_seq fun K36 hK36 => ?_
                refine tr_region [3, 4, 5, 6, 113, 114, 115, 116] rfl rfl fun K hK => ?_
                refine evR_p ?_
                refine evR_e hK ?_; clear hK K
                refine hK36 _ ?_
                refine tr_seq fun K37 hK37 => ?_
                refine tr_condB (fun ht7 => ?_) (fun ht7 => ?_)
                · skip
                  have hil : i < h.must.length := by omega
                  have hap := apartsRs_len h h.apart.length
                  have hmm : h.apart.length * h.rooms.length ≤ 12 * 6 := Nat.mul_le_mul (by omega) hrl
                  have hl12 := hl2 12
                  have hla : ((roomRs h h.rooms.length ++ onceRs h 12) ++ (apartsRs h h.apart.length ++ mustRs h i)).length ≤ 1000 := by have := mustRs_len h i; simp only [List.length_append, roomRs_len]; omega
                  replace hq := And.intro hq (hil)
                  refine tr_skip ?_
                  (try simp only [thenE, inBlkE])
                  refine hK37 _ ?_
                  refine tr_seq fun K38 hK38 => ?_
                  refine tr_block ?_
                  refine tr_seq fun K39 hK39 => ?_
                  refine tr_region [3, 4, 5, 6, 21, 113, 114, 115] rfl rfl fun K hK => ?_
                  iterate 4 refine evR_p ?_
                  refine evR_e hK ?_; clear hK K
                  refine hK39 _ ?_
                  refine tr_seq fun K40 hK40 => ?_
                  refine tr_fz [.ptr 3 0] (by simp (maxSteps := 4000000) (disch := first | assumption | omega | (simp only [go_sem, *]; done) | (simp only [go_sem, *]; omega)) only [go_sem, hq, Int.reduceToNat, Nat.reduceBEq, Nat.reduceEqDiff, Nat.reduceAdd, Nat.reduceMul, Nat.reduceLeDiff, Nat.reduceLT, Nat.reduceSub, ↓reduceIte, reduceCtorEq]; (try rfl)) ?_
                  refine tr_draw [121] [3, 4, 5, 6, 22, 113, 114, 115] mixed rfl (by kernel_rfl) rfl fun K hK => ?_
                  iterate 5 refine evD_p ?_
                  refine evD_c (hc := (k72 77 [.ep [.int .i64 (h.must.getD i 0)]] (-1) rfl)) (k := ?_)
                  refine evD_c (hc := (k70 h hol 4 (h.must.getD i 0) 0 0 (-1) 73 [.ep [.fn 77 [.ep [.int .i64 (h.must.getD i 0)]]], .ep [.int .i64 (-1)]] (oneC (-1) (isP (h.must.getD i 0))) okF_73 rfl (fun o _ => k73 o 77 [.ep [.int .i64 (h.must.getD i 0)]] (-1) (isP (h.must.getD i 0)) okF_77 rfl (k77 o (h.must.getD i 0))))) (k := ?_)
                  iterate 6 refine evD_p ?_
                  refine evD_e hK ?_; clear hK K
                  refine hK40 _ ?_
                  refine tr_region [3, 4, 5, 6, 113, 114, 115] rfl rfl fun K hK => ?_
                  iterate 2 refine evR_p ?_
                  refine evR_bs ?_
                  refine evR_stepX fun Kq hKq => Or.inr ?_
                  simp (maxSteps := 4000000) (disch := first | assumption | omega | (simp only [go_sem, *]; done) | (simp only [go_sem, *]; omega)) only [stpM, go_sem, hq, Int.reduceToNat, Nat.reduceBEq, Nat.reduceEqDiff, Nat.reduceAdd, Nat.reduceMul, Nat.reduceLeDiff, Nat.reduceLT, Nat.reduceSub, ↓reduceIte, reduceCtorEq]
                  refine ⟨[1, 2], ?_⟩
                  simp (maxSteps := 4000000) (disch := first | assumption | omega | (simp only [go_sem, *]; done) | (simp only [go_sem, *]; omega)) only [V.mapL, V.map, gJ, footJ, inJ, AObj.map, ndJ, ltJ, V.domL, V.dom, AObj.dom, kC, kR, AObj.isC, hJ, backJ, List.any_cons, List.any_nil, Nat.ble_eq, Nat.blt_eq, Nat.reduceLT, Nat.reduceLeDiff, Bool.or_true, Bool.true_or, Bool.or_false, Bool.false_or, Bool.and_self, go_sem, hq, Int.reduceToNat, Nat.reduceBEq, Nat.reduceEqDiff, Nat.reduceAdd, Nat.reduceMul, Nat.reduceLeDiff, Nat.reduceLT, Nat.reduceSub, ↓reduceIte, reduceCtorEq]
                  refine ⟨_, _, _, (k71 ((roomRs h h.rooms.length ++ onceRs h 12) ++ (apartsRs h h.apart.length ++ mustRs h i)) (mustR h (h.must.getD i 0)) hla), ?_⟩
                  simp (maxSteps := 4000000) (disch := first | assumption | omega | (simp only [go_sem, *]; done) | (simp only [go_sem, *]; omega)) only [V.mapL, V.map, gJ, footJ, inJ, AObj.map, ndJ, ltJ, V.domL, V.dom, AObj.dom, kC, kR, AObj.isC, hJ, backJ, List.any_cons, List.any_nil, Nat.ble_eq, Nat.blt_eq, Nat.reduceLT, Nat.reduceLeDiff, Bool.or_true, Bool.true_or, Bool.or_false, Bool.false_or, Bool.and_self, go_sem, hq, Int.reduceToNat, Nat.reduceBEq, Nat.reduceEqDiff, Nat.reduceAdd, Nat.reduceMul, Nat.reduceLeDiff, Nat.reduceLT, Nat.reduceSub, ↓reduceIte, reduceCtorEq]
                  (repeat (refine And.intro (by first | assumption | omega | decide | (simp; done) | (simp; omega) | (have hq := hvv hgt; omega) | (have hq := hvv hgt.1; omega) | (simp_all; done)) ?_))
                  refine hKq _ ?_; clear hKq Kq
                  refine evR_e hK ?_; clear hK K
                  refine hK38 _ ?_
                  refine tr_region [3, 4, 5, 6, 113, 114, 115] rfl rfl fun K hK => ?_
                  iterate 2 refine evR_p ?_
                  refine evR_e hK ?_; clear hK K
                  refine hKL5 _ ?_
                  exact ⟨m5 - 1, _, by omega, (Wk.trans (Wk.ren 5 2 (Nat.le_of_ble_eq_true rfl) (Nat.le_of_ble_eq_true rfl) rfl) (Wk.cut 3 rfl)), i + 1, by omega, by rw [w64 (x := (i : Int) + 1) (by omega), mustRs_s hil, app3]; rfl⟩
                · skip
                  have hil : i = h.must.length := by omega
                  subst hil
                  refine tr_exit ?_
                  simp only [thenE, inBlkE, Nat.reduceEqDiff, ↓reduceIte]
                  refine hK34 _ ?_
                  refine tr_seq fun K41 hK41 => ?_
                  refine tr_region [2] rfl rfl fun K hK => ?_
                  iterate 2 refine evR_p ?_
                  refine evR_e hK ?_; clear hK K
                  refine hK41 _ ?_
                  refine tr_ret ?_
                  (try simp only [thenE, inBlkE])
                  simp (maxSteps := 4000000) (disch := first | assumption | omega | (simp only [go_sem, *]; done) | (simp only [go_sem, *]; omega)) only [postA, postO, resV1, fzAll, go_sem, hq, Int.reduceToNat, Nat.reduceBEq, Nat.reduceEqDiff, Nat.reduceAdd, Nat.reduceMul, Nat.reduceLeDiff, Nat.reduceLT, Nat.reduceSub, ↓reduceIte, reduceCtorEq]
                  all_goals ((rw [rowsH, List.append_assoc]; done))

end Go.Proofs.YtaaongcfeldcoaaDoor


namespace Go.Proofs.YtaaongcfeldcoaaDoor
open Go.RowKit
set_option linter.unusedVariables false
set_option linter.unusedSimpArgs false
set_option maxRecDepth 100000
attribute [local go_sem] Nat.zero_add Nat.add_zero Nat.mul_one eq_self ne_eq not_true_eq_false not_false_eq_true decide_true decide_false decide_not Bool.false_eq_true List.filter_cons List.filter_nil true_and and_true beq_false beq_true Bool.not_true Bool.not_false Bool.and_true Bool.true_and Option.getD_some Option.getD_none imp_self implies_true Int.toNat_natCast List.cons_append List.nil_append List.map_cons List.map_nil List.length_cons List.length_nil List.getD_cons_zero List.getD_cons_succ List.drop_zero List.drop_succ_cons List.take_succ_cons List.take_zero
attribute [local go_sem] lowN lowQ lowM isAl appOwn unw appF isE isO stpO notIn St.bare evO evDO isEff stp St.get St.slot St.put List.lookup un unL ofVal gof nth pickV pkB_false pkB_true binV unV loadV idxV fldV partV buildV fillV lenV sliV appV appR rowsV winV V.parts V.okp V.sc Mem.look_cons Mem.look_nil V.cl V.clL AObj.clo fzAll exps St.fz Mem.fz V.fz V.fzL AObj.fz Option.isSome_some Option.isSome_none Bool.or_true Bool.true_or Bool.or_false Bool.false_or false_and and_false false_or or_false arT_112 arT_22 arT_23 arT_27 arT_28 arT_29 arT_33 arT_52 arT_57 arT_65 arT_76 arT_77 arT_84 arT_88 arT_9 arT_95 boolT_133 boolT_29 boolT_3 boolT_36 boolT_4 boolT_70 boolT_92 flatT_133 flatT_29 flatT_3 flatT_36 flatT_4 flatT_70 flatT_92 intT_121 intT_142 intT_144 intT_145 intT_3 intT_5 lay_110 lay_145 lay_22 lay_23 lay_25 lay_27 lay_28 lay_29 lay_3 lay_31 lay_33 lay_35 lay_4 lay_42 lay_51 lay_56 lay_57 lay_59 lay_70 lay_73 lay_77 lay_79 lay_81 lay_83 lay_84 lay_85 lay_88 lay_92 lay_94 lay_95 okF_10 okF_100 okF_101 okF_102 okF_103 okF_104 okF_105 okF_11 okF_12 okF_122 okF_123 okF_124 okF_125 okF_126 okF_127 okF_13 okF_14 okF_15 okF_16 okF_17 okF_18 okF_19 okF_20 okF_21 okF_22 okF_23 okF_24 okF_25 okF_26 okF_27 okF_28 okF_29 okF_3 okF_30 okF_31 okF_32 okF_33 okF_34 okF_35 okF_36 okF_37 okF_38 okF_39 okF_4 okF_40 okF_41 okF_42 okF_43 okF_44 okF_45 okF_46 okF_47 okF_48 okF_49 okF_5 okF_50 okF_51 okF_52 okF_53 okF_54 okF_55 okF_56 okF_57 okF_58 okF_59 okF_6 okF_60 okF_61 okF_62 okF_63 okF_64 okF_65 okF_66 okF_67 okF_68 okF_69 okF_7 okF_70 okF_71 okF_72 okF_73 okF_74 okF_75 okF_76 okF_77 okF_78 okF_79 okF_8 okF_80 okF_81 okF_82 okF_83 okF_84 okF_85 okF_86 okF_87 okF_88 okF_89 okF_9 okF_90 okF_91 okF_92 okF_93 okF_94 okF_95 okF_96 okF_97 okF_98 okF_99 plT_31 plT_35 plT_51 plT_56 plT_59 plT_70 plT_73 plT_90 plT_92 plT_95 slT_112 slT_22 slT_23 slT_27 slT_28 slT_29 slT_33 slT_52 slT_57 slT_65 slT_76 slT_77 slT_88 slT_95 stT_25_0 stT_25_1 stT_25_2 stT_25_3 stT_25_4 stT_31_0 stT_31_1 stT_31_2 stT_31_3 stT_35_0 stT_35_1 stT_35_2 stT_35_3 stT_51_0 stT_51_1 stT_56_0 stT_56_1 stT_56_2 stT_56_3 stT_59_0 stT_59_1 stT_59_2 stT_73_0 stT_73_3 stT_73_4 stT_73_5 stT_79_0 stT_79_1 stT_79_2 stT_83_0 stT_90_0 stT_90_1 stT_90_2 stT_90_3 strT_76 strT_77 strT_84 strT_9 zeroT_112 zeroT_145 zeroT_3 zeroT_31 zeroT_33 zeroT_35 zeroT_42 zeroT_51 zeroT_56 zeroT_57 zeroT_59 zeroT_70 zeroT_73 zeroT_79 zeroT_83 zeroT_90 zeroT_92 zeroT_95
attribute [local go_sem] List.getElem?_cons_zero List.getElem?_cons_succ List.zip_cons_cons List.zip_nil_left List.zip_nil_right Bool.false_and Bool.and_false List.length_append List.length_set List.length_replicate List.all_cons List.all_nil encI_length encI_getD encR_length encR_getD encRw encPg spl shp AObj.shp rowM isSt isRpS isRd csh AObj.csh forall_const imp_self
attribute [local go_sem] encHr encOf encSp encP2 encSps_length encOfs_length encP2s_length encSps_getD encOfs_getD encP2s_getD
attribute [local simp] encI_length encR_length cellsI_length encSps_length encOfs_length encP2s_length
set_option maxHeartbeats 4000000 in
theorem k20 (h : Hr) (hv : validH h = true) : CallsA Tryd.prog 20 [.agg (encHr h)] (.tup [.agg (encPg (progH h)), .int .i64 0]) := by
  have hV := validH_all hv
  have hr : h.rooms.length ≤ maxLen := by have := hV.rl; unfold maxLen; omega
  have ho : h.offers.length ≤ maxLen := by have := hV.ol; unfold maxLen; omega
  have ha : h.apart.length ≤ maxLen := by have := hV.al; unfold maxLen; omega
  have hm : h.must.length ≤ maxLen := by have := hV.ml; unfold maxLen; omega
  have hol := hV.ol
  have hrl := hV.rl
  have hq := hv
  refine callsA_of_tr Tryd.func20 rfl (Nat.le_of_ble_eq_true rfl) ?_
  simp only [Tryd.results20, envOf, Nat.reduceAdd]
  refine tr_seq fun K1 hK1 => ?_
  refine tr_region [1, 2] rfl rfl fun K hK => ?_
  iterate 3 refine evR_p ?_
  refine evR_e hK ?_; clear hK K
  refine hK1 _ ?_
  refine tr_seq fun K2 hK2 => ?_
  refine tr_seq fun K3 hK3 => ?_
  refine tr_region [1, 2, 9] rfl rfl fun K hK => ?_
  refine evR_p ?_
  refine evR_c (hc := (k19 h hr ho ha hm)) (k := ?_)
  refine evR_p ?_
  refine evR_e hK ?_; clear hK K
  refine hK3 _ ?_
  refine tr_condB (fun ht1 => ?_) (fun ht1 => ?_)
  · skip
    (first | (exfalso; simp_all; done) | skip)
    all_goals
      refine tr_seq fun K4 hK4 => ?_
      refine tr_region [2, 3] rfl rfl fun K hK => ?_
      iterate 3 refine evR_p ?_
      refine evR_e hK ?_; clear hK K
      refine hK4 _ ?_
      refine tr_ret ?_
      (try simp only [thenE, inBlkE])
      simp (maxSteps := 4000000) (disch := first | assumption | omega | (simp only [go_sem, *]; done) | (simp only [go_sem, *]; omega)) only [postA, postO, resV1, fzAll, go_sem, hq, Int.reduceToNat, Nat.reduceBEq, Nat.reduceEqDiff, Nat.reduceAdd, Nat.reduceMul, Nat.reduceLeDiff, Nat.reduceLT, Nat.reduceSub, ↓reduceIte, reduceCtorEq]
      all_goals ((rw [valsT_end]; rfl))
  · skip
    (first | (exfalso; simp_all; done) | skip)
    all_goals
      refine tr_skip ?_
      (try simp only [thenE, inBlkE])
      refine hK2 _ ?_
      refine tr_seq fun K5 hK5 => ?_
      refine tr_fz [.ptr 0 0] (by simp (maxSteps := 4000000) (disch := first | assumption | omega | (simp only [go_sem, *]; done) | (simp only [go_sem, *]; omega)) only [go_sem, hq, Int.reduceToNat, Nat.reduceBEq, Nat.reduceEqDiff, Nat.reduceAdd, Nat.reduceMul, Nat.reduceLeDiff, Nat.reduceLT, Nat.reduceSub, ↓reduceIte, reduceCtorEq]; (try rfl)) ?_
      refine tr_draw [12, 13, 14] [1, 2, 4] mixed rfl (by kernel_rfl) rfl fun K hK => ?_
      iterate 4 refine evD_p ?_
      refine evD_c (hc := (k50 h hV)) (k := ?_)
      iterate 3 refine evD_p ?_
      refine evD_e hK ?_; clear hK K
      refine hK5 _ ?_
      refine tr_seq fun K6 hK6 => ?_
      refine tr_seq fun K7 hK7 => ?_
      refine tr_region [2, 4, 18, 19, 20] rfl rfl fun K hK => ?_
      iterate 4 refine evR_p ?_
      refine evR_e hK ?_; clear hK K
      refine hK7 _ ?_
      refine tr_block ?_
      -- loop 1: live [2, 4, 18, 19, 20]
      refine tr_loopW (fun m σ => ∃ i : Nat, i + m = h.offers.length ∧ σ = ⟨[(2, .ptr 1 0), (4, .ptr 2 0), (18, .sl 4 (encOfs h.offers)), (19, .int .i64 h.offers.length), (20, .int .i64 (i : Nat))], [(3, .row 3 1 (encI (valsT h i))), (2, .cells [.int .i64 h.offers.length, .sl 6 (encR (rowsH h)), .own 3]), (1, .cells [.int .i64 0, .nsl, .nsl])], 4⟩) (h.offers.length) ?_ ?_
      · exact ⟨_, Wk.nilown 3 1 2 2 rfl (Nat.le_of_ble_eq_true rfl) rfl, 0, by omega, rfl⟩
      · rintro m σ ⟨i, hi, rfl⟩ KL1 hKL1
        refine tr_seq fun K8 hK8 => ?_
        refine tr_region [2, 4, 18, 19, 20, 21] rfl rfl fun K hK => ?_
        refine evR_p ?_
        refine evR_e hK ?_; clear hK K
        refine hK8 _ ?_
        refine tr_seq fun K9 hK9 => ?_
        refine tr_condB (fun ht2 => ?_) (fun ht2 => ?_)
        · skip
          (first | (exfalso; simp_all; done) | skip)
          all_goals
            have hil : i < h.offers.length := by omega
            have hvl := valsT_len h i
            replace hq := And.intro hq (hil)
            refine tr_skip ?_
            (try simp only [thenE, inBlkE])
            refine hK9 _ ?_
            refine tr_seq fun K10 hK10 => ?_
            refine tr_block ?_
            refine tr_seq fun K11 hK11 => ?_
            refine tr_region [2, 4, 6, 18, 19, 20] rfl rfl fun K hK => ?_
            iterate 4 refine evR_p ?_
            refine evR_e hK ?_; clear hK K
            refine hK11 _ ?_
            refine tr_region [2, 4, 18, 19, 20] rfl rfl fun K hK => ?_
            iterate 4 refine evR_p ?_
            refine evR_bs ?_
            iterate 3 refine evR_p ?_
            refine evR_e hK ?_; clear hK K
            refine hK10 _ ?_
            refine tr_region [2, 4, 18, 19, 20] rfl rfl fun K hK => ?_
            iterate 2 refine evR_p ?_
            refine evR_e hK ?_; clear hK K
            refine hKL1 _ ?_
            exact ⟨m - 1, _, by omega, (Wk.trans (Wk.ren 5 3 (Nat.le_of_ble_eq_true rfl) (Nat.le_of_ble_eq_true rfl) rfl) (Wk.cut 4 rfl)), i + 1, by omega, by rw [w64 (x := (i : Int) + 1) (by omega), valsT_s hil, encI_snoc]; rfl⟩
        · skip
          (first | (exfalso; simp_all; done) | skip)
          all_goals
            have hil : i = h.offers.length := by omega
            subst hil
            refine tr_exit ?_
            simp only [thenE, inBlkE, Nat.reduceEqDiff, ↓reduceIte]
            refine hK6 _ ?_
            refine tr_seq fun K12 hK12 => ?_
            refine tr_region [2, 3] rfl rfl fun K hK => ?_
            iterate 3 refine evR_p ?_
            refine evR_e hK ?_; clear hK K
            refine hK12 _ ?_
            refine tr_ret ?_
            (try simp only [thenE, inBlkE])
            simp (maxSteps := 4000000) (disch := first | assumption | omega | (simp only [go_sem, *]; done) | (simp only [go_sem, *]; omega)) only [postA, postO, resV1, fzAll, go_sem, hq, Int.reduceToNat, Nat.reduceBEq, Nat.reduceEqDiff, Nat.reduceAdd, Nat.reduceMul, Nat.reduceLeDiff, Nat.reduceLT, Nat.reduceSub, ↓reduceIte, reduceCtorEq]
            all_goals ((rw [valsT_end]; rfl))

theorem k20n (h : Hr) (hr : h.rooms.length ≤ maxLen) (ho : h.offers.length ≤ maxLen) (ha : h.apart.length ≤ maxLen) (hm : h.must.length ≤ maxLen) (hv : validH h = false) : CallsA Tryd.prog 20 [.agg (encHr h)] (.tup [.agg [.int .i64 0, .nsl, .nsl], .int .i64 250]) := by
  have hq := hv
  refine callsA_of_tr Tryd.func20 rfl (Nat.le_of_ble_eq_true rfl) ?_
  simp only [Tryd.results20, envOf, Nat.reduceAdd]
  refine tr_seq fun K1 hK1 => ?_
  refine tr_region [1, 2] rfl rfl fun K hK => ?_
  iterate 3 refine evR_p ?_
  refine evR_e hK ?_; clear hK K
  refine hK1 _ ?_
  refine tr_seq fun K2 hK2 => ?_
  refine tr_seq fun K3 hK3 => ?_
  refine tr_region [1, 2, 9] rfl rfl fun K hK => ?_
  refine evR_p ?_
  refine evR_c (hc := (k19 h hr ho ha hm)) (k := ?_)
  refine evR_p ?_
  refine evR_e hK ?_; clear hK K
  refine hK3 _ ?_
  refine tr_condB (fun ht1 => ?_) (fun ht1 => ?_)
  · skip
    (first | (exfalso; simp_all; done) | skip)
    all_goals
      refine tr_seq fun K4 hK4 => ?_
      refine tr_region [2, 3] rfl rfl fun K hK => ?_
      iterate 3 refine evR_p ?_
      refine evR_e hK ?_; clear hK K
      refine hK4 _ ?_
      refine tr_ret ?_
      (try simp only [thenE, inBlkE])
      simp (maxSteps := 4000000) (disch := first | assumption | omega | (simp only [go_sem, *]; done) | (simp only [go_sem, *]; omega)) only [postA, postO, resV1, fzAll, go_sem, hq, Int.reduceToNat, Nat.reduceBEq, Nat.reduceEqDiff, Nat.reduceAdd, Nat.reduceMul, Nat.reduceLeDiff, Nat.reduceLT, Nat.reduceSub, ↓reduceIte, reduceCtorEq]
      all_goals (rfl)
  · skip
    (first | (exfalso; simp_all; done) | skip)
    all_goals
      refine tr_skip ?_
      (try simp only [thenE, inBlkE])
      refine hK2 _ ?_
      refine tr_seq fun K5 hK5 => ?_
      refine tr_fz [.ptr 0 0] (by simp (maxSteps := 4000000) (disch := first | assumption | omega | (simp only [go_sem, *]; done) | (simp only [go_sem, *]; omega)) only [go_sem, hq, Int.reduceToNat, Nat.reduceBEq, Nat.reduceEqDiff, Nat.reduceAdd, Nat.reduceMul, Nat.reduceLeDiff, Nat.reduceLT, Nat.reduceSub, ↓reduceIte, reduceCtorEq]; (try rfl)) ?_
      refine tr_draw [12, 13, 14] [1, 2, 4] mixed rfl (by kernel_rfl) rfl fun K hK => ?_
      iterate 4 refine evD_p ?_
      refine evD_c (hc := (k50 h (validH_all (by simp_all)))) (k := ?_)
      iterate 3 refine evD_p ?_
      refine evD_e hK ?_; clear hK K
      refine hK5 _ ?_
      refine tr_seq fun K6 hK6 => ?_
      refine tr_seq fun K7 hK7 => ?_
      refine tr_region [2, 4, 18, 19, 20] rfl rfl fun K hK => ?_
      iterate 4 refine evR_p ?_
      refine evR_e hK ?_; clear hK K
      refine hK7 _ ?_
      refine tr_block ?_
      -- loop 1: live [2, 4, 18, 19, 20]
      refine tr_loopW (fun m σ => ∃ i : Nat, i + m = h.offers.length ∧ σ = ⟨[(2, .ptr 1 0), (4, .ptr 2 0), (18, .sl 4 (encOfs h.offers)), (19, .int .i64 h.offers.length), (20, .int .i64 (i : Nat))], [(3, .row 3 1 (encI (valsT h i))), (2, .cells [.int .i64 h.offers.length, .sl 6 (encR (rowsH h)), .own 3]), (1, .cells [.int .i64 0, .nsl, .nsl])], 4⟩) (h.offers.length) ?_ ?_
      · exact ⟨_, Wk.nilown 3 1 2 2 rfl (Nat.le_of_ble_eq_true rfl) rfl, 0, by omega, rfl⟩
      · rintro m σ ⟨i, hi, rfl⟩ KL1 hKL1
        refine tr_seq fun K8 hK8 => ?_
        refine tr_region [2, 4, 18, 19, 20, 21] rfl rfl fun K hK => ?_
        refine evR_p ?_
        refine evR_e hK ?_; clear hK K
        refine hK8 _ ?_
        refine tr_seq fun K9 hK9 => ?_
        refine tr_condB (fun ht2 => ?_) (fun ht2 => ?_)
        · skip
          (first | (exfalso; simp_all; done) | skip)
          all_goals
            have hil : i < h.offers.length := by omega
            have hvl := valsT_len h i
            replace hq := And.intro hq (hil)
            refine tr_skip ?_
            (try simp only [thenE, inBlkE])
            refine hK9 _ ?_
            refine tr_seq fun K10 hK10 => ?_
            refine tr_block ?_
            refine tr_seq fun K11 hK11 => ?_
            refine tr_region [2, 4, 6, 18, 19, 20] rfl rfl fun K hK => ?_
            iterate 4 refine evR_p ?_
            refine evR_e hK ?_; clear hK K
            refine hK11 _ ?_
            refine tr_region [2, 4, 18, 19, 20] rfl rfl fun K hK => ?_
            iterate 4 refine evR_p ?_
            refine evR_bs ?_
            iterate 3 refine evR_p ?_
            refine evR_e hK ?_; clear hK K
            refine hK10 _ ?_
            refine tr_region [2, 4, 18, 19, 20] rfl rfl fun K hK => ?_
            iterate 2 refine evR_p ?_
            refine evR_e hK ?_; clear hK K
            refine hKL1 _ ?_
            exact ⟨m - 1, _, by omega, (Wk.trans (Wk.ren 5 3 (Nat.le_of_ble_eq_true rfl) (Nat.le_of_ble_eq_true rfl) rfl) (Wk.cut 4 rfl)), i + 1, by omega, by rw [w64 (x := (i : Int) + 1) (by omega), valsT_s hil, encI_snoc]; rfl⟩
        · skip
          (first | (exfalso; simp_all; done) | skip)
          all_goals
            have hil : i = h.offers.length := by omega
            subst hil
            refine tr_exit ?_
            simp only [thenE, inBlkE, Nat.reduceEqDiff, ↓reduceIte]
            refine hK6 _ ?_
            refine tr_seq fun K12 hK12 => ?_
            refine tr_region [2, 3] rfl rfl fun K hK => ?_
            iterate 3 refine evR_p ?_
            refine evR_e hK ?_; clear hK K
            refine hK12 _ ?_
            refine tr_ret ?_
            (try simp only [thenE, inBlkE])
            simp (maxSteps := 4000000) (disch := first | assumption | omega | (simp only [go_sem, *]; done) | (simp only [go_sem, *]; omega)) only [postA, postO, resV1, fzAll, go_sem, hq, Int.reduceToNat, Nat.reduceBEq, Nat.reduceEqDiff, Nat.reduceAdd, Nat.reduceMul, Nat.reduceLeDiff, Nat.reduceLT, Nat.reduceSub, ↓reduceIte, reduceCtorEq]
            all_goals (rfl)

end Go.Proofs.YtaaongcfeldcoaaDoor


namespace Go.Proofs.YtaaongcfeldcoaaDoor
open Go.RowKit
set_option linter.unusedVariables false
set_option linter.unusedSimpArgs false
set_option maxRecDepth 100000
attribute [local go_sem] Nat.zero_add Nat.add_zero Nat.mul_one eq_self ne_eq not_true_eq_false not_false_eq_true decide_true decide_false decide_not Bool.false_eq_true List.filter_cons List.filter_nil true_and and_true beq_false beq_true Bool.not_true Bool.not_false Bool.and_true Bool.true_and Option.getD_some Option.getD_none imp_self implies_true Int.toNat_natCast List.cons_append List.nil_append List.map_cons List.map_nil List.length_cons List.length_nil List.getD_cons_zero List.getD_cons_succ List.drop_zero List.drop_succ_cons List.take_succ_cons List.take_zero
attribute [local go_sem] lowN lowQ lowM isAl appF isE isO stpO notIn St.bare evO evDO isEff stp St.get St.slot St.put List.lookup un unL ofVal gof nth pickV pkB_false pkB_true binV unV loadV idxV fldV partV buildV fillV lenV sliV appV appR rowsV winV V.parts V.okp V.sc Mem.look_cons Mem.look_nil V.cl V.clL AObj.clo fzAll exps St.fz Mem.fz V.fz V.fzL AObj.fz Option.isSome_some Option.isSome_none Bool.or_true Bool.true_or Bool.or_false Bool.false_or false_and and_false false_or or_false   arT_29 arT_57  arT_33   arT_112 arT_95  arT_88 boolT_29 boolT_3 boolT_36 boolT_4 boolT_92 flatT_29 flatT_3 flatT_36 flatT_4 flatT_92 intT_3 intT_121  lay_29 lay_73 lay_57 lay_59 lay_3 lay_42 lay_33 lay_35 lay_4  lay_88  lay_92 lay_110 lay_85   okF_14  okF_28    okF_18  okF_21  okF_22                okF_59 okF_60 okF_61  okF_62 okF_63     okF_51 okF_52 okF_53 okF_54  okF_55   okF_56 okF_57 okF_58 okF_32  okF_82 okF_83  okF_84 okF_85 okF_86 okF_87   okF_78 okF_79 okF_80 okF_81  okF_94  okF_40 okF_99 okF_69 okF_68   plT_73 plT_59 plT_35 plT_90 plT_92   slT_29 slT_57  slT_33   slT_112 slT_95  slT_88 stT_73_0   stT_73_3 stT_73_4 stT_73_5 stT_59_0 stT_59_1 stT_59_2 stT_35_0 stT_35_1 stT_35_2 stT_35_3 stT_90_0 stT_90_1 stT_90_2 stT_90_3    zeroT_73 zeroT_59 zeroT_3 zeroT_42 zeroT_33 zeroT_35   zeroT_90 zeroT_92
attribute [local go_sem] List.getElem?_cons_zero List.getElem?_cons_succ List.zip_cons_cons List.zip_nil_left List.zip_nil_right Bool.false_and Bool.and_false List.length_append List.length_set List.length_replicate List.all_cons List.all_nil encI_length encI_getD encR_length encR_getD encRw encPg spl shp AObj.shp rowM isSt isRpS isRd csh AObj.csh forall_const imp_self
attribute [local simp] encI_length encR_length
theorem c53 (p : Pg) (hr : p.rows.length ≤ maxLen) (hg : p.gain.length ≤ maxLen) (hc : ∀ r ∈ p.rows, r.coef.length ≤ maxLen) (set : Int) : CallsA Tryd.prog 56 [.agg (encPg p), .int .i64 set] (.bool (choiceB p set)) := by
  have hvv := @validB_vars p
  have hq : True := trivial
  refine callsA_of_tr Tryd.func56 rfl (Nat.le_of_ble_eq_true rfl) ?_
  simp only [Tryd.results56, envOf, Nat.reduceAdd]
  refine tr_seq fun K1 hK1 => ?_
  refine tr_region [1, 2] rfl rfl fun K hK => ?_
  iterate 2 refine evR_p ?_
  refine evR_e hK ?_; clear hK K
  refine hK1 _ ?_
  refine tr_seq fun K2 hK2 => ?_
  refine tr_region [4] rfl rfl fun K hK => ?_
  refine evR_p ?_
  refine evR_c (hc := (c20 p hr hg hc)) (k := ?_)
  refine evR_p ?_
  iterate 5 refine evR_g ?_
  refine evR_gc (hc := (c49 _ _ _)) (k := ?_)
  iterate 2 refine evR_p ?_
  refine evR_e hK ?_; clear hK K
  refine hK2 _ ?_
  refine tr_ret ?_
  (try simp only [thenE, inBlkE])
  simp (maxSteps := 4000000) (disch := first | assumption | omega | (simp only [go_sem, *]; done) | (simp only [go_sem, *]; omega)) only [postA, postO, resV1, fzAll, go_sem, hq, Int.reduceToNat, Nat.reduceBEq, Nat.reduceEqDiff, Nat.reduceAdd, Nat.reduceMul, Nat.reduceLeDiff, Nat.reduceLT, Nat.reduceSub, ↓reduceIte, reduceCtorEq]
  all_goals (simp [choiceB])

theorem c54 (r : Rw) (hm : r.coef.length ≤ maxLen) (set : Int) : CallsA Tryd.prog 57 [.agg (encRw r), .ep [.int .i64 set]] (.bool (keptB r set)) := by
  have hq : True := trivial
  refine callsA_of_tr Tryd.func57 rfl (Nat.le_of_ble_eq_true rfl) ?_
  simp only [Tryd.results57, envOf, Nat.reduceAdd]
  refine tr_seq fun K1 hK1 => ?_
  refine tr_region [1, 2] rfl rfl fun K hK => ?_
  iterate 2 refine evR_p ?_
  refine evR_e hK ?_; clear hK K
  refine hK1 _ ?_
  refine tr_seq fun K2 hK2 => ?_
  refine tr_region [3] rfl rfl fun K hK => ?_
  iterate 2 refine evR_p ?_
  refine evR_c (hc := (c55 r hm set)) (k := ?_)
  refine evR_p ?_
  refine evR_e hK ?_; clear hK K
  refine hK2 _ ?_
  refine tr_ret ?_
  (try simp only [thenE, inBlkE])
  simp (maxSteps := 4000000) (disch := first | assumption | omega | (simp only [go_sem, *]; done) | (simp only [go_sem, *]; omega)) only [postA, postO, resV1, fzAll, go_sem, hq, Int.reduceToNat, Nat.reduceBEq, Nat.reduceEqDiff, Nat.reduceAdd, Nat.reduceMul, Nat.reduceLeDiff, Nat.reduceLT, Nat.reduceSub, ↓reduceIte, reduceCtorEq]
  all_goals (skip)

theorem c22 (p : Pg) (hr : p.rows.length ≤ maxLen) (hg : p.gain.length ≤ maxLen) (hc : ∀ r ∈ p.rows, r.coef.length ≤ maxLen) (set : Int) : CallsA Tryd.prog 22 [.agg (encPg p), .int .i64 set] (.bool (keepsB p set)) := by
  have hq : True := trivial
  refine callsA_of_tr Tryd.func22 rfl (Nat.le_of_ble_eq_true rfl) ?_
  simp only [Tryd.results22, envOf, Nat.reduceAdd]
  refine tr_seq fun K1 hK1 => ?_
  refine tr_region [2, 3] rfl rfl fun K hK => ?_
  iterate 3 refine evR_p ?_
  refine evR_e hK ?_; clear hK K
  refine hK1 _ ?_
  refine tr_seq fun K2 hK2 => ?_
  refine tr_fz [.ptr 1 0] (by simp (maxSteps := 4000000) (disch := first | assumption | omega | (simp only [go_sem, *]; done) | (simp only [go_sem, *]; omega)) only [go_sem, hq, Int.reduceToNat, Nat.reduceBEq, Nat.reduceEqDiff, Nat.reduceAdd, Nat.reduceMul, Nat.reduceLeDiff, Nat.reduceLT, Nat.reduceSub, ↓reduceIte, reduceCtorEq]; (try rfl)) ?_
  refine tr_region [4] rfl rfl fun K hK => ?_
  iterate 2 refine evR_p ?_
  refine evR_c (hc := (c53 p hr hg hc set)) (k := ?_)
  refine evR_p ?_
  iterate 3 refine evR_g ?_
  refine evR_gc (hc := (c46 p.rows 57 [.ep [.int .i64 set]] (fun r => keptB r set) okF_57 rfl (fun r h => c54 r (hc r h) set) hr)) (k := ?_)
  iterate 2 refine evR_p ?_
  refine evR_e hK ?_; clear hK K
  refine hK2 _ ?_
  refine tr_ret ?_
  (try simp only [thenE, inBlkE])
  simp (maxSteps := 4000000) (disch := first | assumption | omega | (simp only [go_sem, *]; done) | (simp only [go_sem, *]; omega)) only [postA, postO, resV1, fzAll, go_sem, hq, Int.reduceToNat, Nat.reduceBEq, Nat.reduceEqDiff, Nat.reduceAdd, Nat.reduceMul, Nat.reduceLeDiff, Nat.reduceLT, Nat.reduceSub, ↓reduceIte, reduceCtorEq]
  all_goals (simp [keepsB])

end Go.Proofs.YtaaongcfeldcoaaDoor


namespace Go.Proofs.YtaaongcfeldcoaaDoor
open Go.RowKit
set_option linter.unusedVariables false
set_option linter.unusedSimpArgs false
set_option maxRecDepth 100000
attribute [local go_sem] Nat.zero_add Nat.add_zero Nat.mul_one eq_self ne_eq not_true_eq_false not_false_eq_true decide_true decide_false decide_not Bool.false_eq_true List.filter_cons List.filter_nil true_and and_true beq_false beq_true Bool.not_true Bool.not_false Bool.and_true Bool.true_and Option.getD_some Option.getD_none imp_self implies_true Int.toNat_natCast List.cons_append List.nil_append List.map_cons List.map_nil List.length_cons List.length_nil List.getD_cons_zero List.getD_cons_succ List.drop_zero List.drop_succ_cons List.take_succ_cons List.take_zero
attribute [local go_sem] lowN lowQ lowM isAl appF isE isO stpO notIn St.bare evO evDO isEff stp St.get St.slot St.put List.lookup un unL ofVal gof nth pickV pkB_false pkB_true binV unV loadV idxV fldV partV buildV fillV lenV sliV appV appR rowsV winV V.parts V.okp V.sc Mem.look_cons Mem.look_nil V.cl V.clL AObj.clo fzAll exps St.fz Mem.fz V.fz V.fzL AObj.fz Option.isSome_some Option.isSome_none Bool.or_true Bool.true_or Bool.or_false Bool.false_or false_and and_false false_or or_false   arT_29 arT_57  arT_33   arT_112 arT_95  arT_88 boolT_29 boolT_3 boolT_36 boolT_4 boolT_92 flatT_29 flatT_3 flatT_36 flatT_4 flatT_92 intT_3 intT_121  lay_29 lay_73 lay_57 lay_59 lay_3 lay_42 lay_33 lay_35 lay_4  lay_88  lay_92 lay_110 lay_85   okF_14  okF_28    okF_18  okF_21  okF_22                okF_59 okF_60 okF_61  okF_62 okF_63     okF_51 okF_52 okF_53 okF_54  okF_55   okF_56 okF_57 okF_58 okF_32  okF_82 okF_83  okF_84 okF_85 okF_86 okF_87   okF_78 okF_79 okF_80 okF_81  okF_94  okF_40 okF_99 okF_69 okF_68   plT_73 plT_59 plT_35 plT_90 plT_92   slT_29 slT_57  slT_33   slT_112 slT_95  slT_88 stT_73_0   stT_73_3 stT_73_4 stT_73_5 stT_59_0 stT_59_1 stT_59_2 stT_35_0 stT_35_1 stT_35_2 stT_35_3 stT_90_0 stT_90_1 stT_90_2 stT_90_3    zeroT_73 zeroT_59 zeroT_3 zeroT_42 zeroT_33 zeroT_35   zeroT_90 zeroT_92
attribute [local go_sem] List.getElem?_cons_zero List.getElem?_cons_succ List.zip_cons_cons List.zip_nil_left List.zip_nil_right Bool.false_and Bool.and_false List.length_append List.length_set List.length_replicate List.all_cons List.all_nil encI_length encI_getD encR_length encR_getD encRw encPg spl shp AObj.shp rowM isSt isRpS isRd csh AObj.csh forall_const imp_self
attribute [local simp] encI_length encR_length
theorem c40 (p : Pg) (hg : p.gain.length ≤ 1000) (gain : Int) : CallsA Tryd.prog 62 [.agg (encPg p), .int .i64 gain] (.agg (encRw (goalW p gain))) := by
  have hq : True := trivial
  refine callsA_of_tr Tryd.func62 rfl (Nat.le_of_ble_eq_true rfl) ?_
  simp only [Tryd.results62, envOf, Nat.reduceAdd]
  refine tr_seq fun K1 hK1 => ?_
  refine tr_region [1, 2, 4] rfl rfl fun K hK => ?_
  iterate 2 refine evR_p ?_
  refine evR_e hK ?_; clear hK K
  refine hK1 _ ?_
  refine tr_seq fun K2 hK2 => ?_
  refine tr_region [2, 4, 5] rfl rfl fun K hK => ?_
  iterate 6 refine evR_p ?_
  refine evR_e hK ?_; clear hK K
  refine hK2 _ ?_
  refine tr_seq fun K3 hK3 => ?_
  refine tr_seq fun K4 hK4 => ?_
  refine tr_region [4, 5, 13, 14, 15] rfl rfl fun K hK => ?_
  iterate 4 refine evR_p ?_
  refine evR_e hK ?_; clear hK K
  refine hK4 _ ?_
  refine tr_block ?_
  -- loop 1: live [4, 5, 13, 14, 15]
  refine tr_loopW (fun m σ => ∃ i, i + m = p.gain.length ∧ σ = ⟨[(4, .ptr 1 0), (5, .ptr 2 0), (13, .sl 1 (encI p.gain)), (14, .int .i64 p.gain.length), (15, .int .i64 (i : Nat))], [(3, .row 3 1 (encI (negG p.gain i))), (2, .cells [.int .i64 0, .int .i64 0, .int .i64 0, .int .i64 0, .own 3, .int .i64 (IntKind.i64.wrap (0 - IntKind.i64.wrap (gain + 1)))]), (1, .cells [.int .i64 0, .int .i64 0, .int .i64 0, .int .i64 0, .nsl, .int .i64 0]), (0, .cells (encPg p))], 4⟩) (p.gain.length) ?_ ?_
  · exact ⟨_, Wk.nilown 3 1 2 4 rfl (Nat.le_of_ble_eq_true rfl) rfl, 0, by omega, rfl⟩
  · rintro m σ ⟨i, hi, rfl⟩ KL1 hKL1
    refine tr_seq fun K5 hK5 => ?_
    refine tr_region [4, 5, 13, 14, 15, 16] rfl rfl fun K hK => ?_
    refine evR_p ?_
    refine evR_e hK ?_; clear hK K
    refine hK5 _ ?_
    refine tr_seq fun K6 hK6 => ?_
    refine tr_condB (fun ht1 => ?_) (fun ht1 => ?_)
    · skip
      have hil : i < p.gain.length := by omega
      have hnl := negG_length p.gain i
      replace hq := And.intro hq (And.intro hil (hnl))
      refine tr_skip ?_
      (try simp only [thenE, inBlkE])
      refine hK6 _ ?_
      refine tr_seq fun K7 hK7 => ?_
      refine tr_block ?_
      refine tr_seq fun K8 hK8 => ?_
      refine tr_region [4, 5, 7, 13, 14, 15] rfl rfl fun K hK => ?_
      iterate 3 refine evR_p ?_
      refine evR_e hK ?_; clear hK K
      refine hK8 _ ?_
      refine tr_region [4, 5, 13, 14, 15] rfl rfl fun K hK => ?_
      iterate 4 refine evR_p ?_
      refine evR_bs ?_
      iterate 3 refine evR_p ?_
      refine evR_e hK ?_; clear hK K
      refine hK7 _ ?_
      refine tr_region [4, 5, 13, 14, 15] rfl rfl fun K hK => ?_
      iterate 2 refine evR_p ?_
      refine evR_e hK ?_; clear hK K
      refine hKL1 _ ?_
      exact ⟨m - 1, _, by omega, (Wk.trans (Wk.ren 4 3 (Nat.le_of_ble_eq_true rfl) (Nat.le_of_ble_eq_true rfl) rfl) (Wk.cut 4 rfl)), i + 1, by omega, by rw [w64 (x := (i : Int) + 1) (by omega), negG_succ hil, encI_snoc]; rfl⟩
    · skip
      have hil : i = p.gain.length := by omega
      subst hil
      refine tr_exit ?_
      simp only [thenE, inBlkE, Nat.reduceEqDiff, ↓reduceIte]
      refine hK3 _ ?_
      refine tr_seq fun K9 hK9 => ?_
      refine tr_region [4] rfl rfl fun K hK => ?_
      iterate 2 refine evR_p ?_
      refine evR_e hK ?_; clear hK K
      refine hK9 _ ?_
      refine tr_ret ?_
      (try simp only [thenE, inBlkE])
      simp (maxSteps := 4000000) (disch := first | assumption | omega | (simp only [go_sem, *]; done) | (simp only [go_sem, *]; omega)) only [postA, postO, resV1, fzAll, go_sem, hq, Int.reduceToNat, Nat.reduceBEq, Nat.reduceEqDiff, Nat.reduceAdd, Nat.reduceMul, Nat.reduceLeDiff, Nat.reduceLT, Nat.reduceSub, ↓reduceIte, reduceCtorEq]
      all_goals (rfl)

end Go.Proofs.YtaaongcfeldcoaaDoor


namespace Go.Proofs.YtaaongcfeldcoaaDoor
open Go.RowKit
set_option linter.unusedVariables false
set_option linter.unusedSimpArgs false
set_option maxRecDepth 100000
attribute [local go_sem] Nat.zero_add Nat.add_zero Nat.mul_one eq_self ne_eq not_true_eq_false not_false_eq_true decide_true decide_false decide_not Bool.false_eq_true List.filter_cons List.filter_nil true_and and_true beq_false beq_true Bool.not_true Bool.not_false Bool.and_true Bool.true_and Option.getD_some Option.getD_none imp_self implies_true Int.toNat_natCast List.cons_append List.nil_append List.map_cons List.map_nil List.length_cons List.length_nil List.getD_cons_zero List.getD_cons_succ List.drop_zero List.drop_succ_cons List.take_succ_cons List.take_zero
attribute [local go_sem] lowN lowQ lowM isAl appF isE isO stpO notIn St.bare evO evDO isEff stp St.get St.slot St.put List.lookup un unL ofVal gof nth pickV pkB_false pkB_true binV unV loadV idxV fldV partV buildV fillV lenV sliV appV appR rowsV winV V.parts V.okp V.sc Mem.look_cons Mem.look_nil V.cl V.clL AObj.clo fzAll exps St.fz Mem.fz V.fz V.fzL AObj.fz Option.isSome_some Option.isSome_none Bool.or_true Bool.true_or Bool.or_false Bool.false_or false_and and_false false_or or_false   arT_29 arT_57  arT_33   arT_112 arT_95  arT_88 boolT_29 boolT_3 boolT_36 boolT_4 boolT_92 flatT_29 flatT_3 flatT_36 flatT_4 flatT_92 intT_3 intT_121  lay_29 lay_73 lay_57 lay_59 lay_3 lay_42 lay_33 lay_35 lay_4  lay_88  lay_92 lay_110 lay_85   okF_14  okF_28    okF_18  okF_21  okF_22                okF_59 okF_60 okF_61  okF_62 okF_63     okF_51 okF_52 okF_53 okF_54  okF_55   okF_56 okF_57 okF_58 okF_32  okF_82 okF_83  okF_84 okF_85 okF_86 okF_87   okF_78 okF_79 okF_80 okF_81  okF_94  okF_40 okF_99 okF_69 okF_68   plT_73 plT_59 plT_35 plT_90 plT_92   slT_29 slT_57  slT_33   slT_112 slT_95  slT_88 stT_73_0   stT_73_3 stT_73_4 stT_73_5 stT_59_0 stT_59_1 stT_59_2 stT_35_0 stT_35_1 stT_35_2 stT_35_3 stT_90_0 stT_90_1 stT_90_2 stT_90_3    zeroT_73 zeroT_59 zeroT_3 zeroT_42 zeroT_33 zeroT_35   zeroT_90 zeroT_92
attribute [local go_sem] List.getElem?_cons_zero List.getElem?_cons_succ List.zip_cons_cons List.zip_nil_left List.zip_nil_right Bool.false_and Bool.and_false List.length_append List.length_set List.length_replicate List.all_cons List.all_nil encI_length encI_getD encR_length encR_getD encRw encPg spl shp AObj.shp rowM isSt isRpS isRd csh AObj.csh forall_const imp_self
attribute [local simp] encI_length encR_length
section
attribute [local go_sem] encI_take encI_drop
theorem c63 (r : Rw) (hm : r.coef.length ≤ maxLen) (d : Nat) (set : Int) (hd : d ≤ r.coef.length) : CallsA Tryd.prog 87 [.agg (encRw r), .int .i64 d, .int .i64 set] (.int .i64 (leastW r d set)) := by
  have hm0 := hm
  unfold maxLen at hm0
  have hq : True := trivial
  refine callsA_of_tr Tryd.func87 rfl (Nat.le_of_ble_eq_true rfl) ?_
  simp only [Tryd.results87, envOf, Nat.reduceAdd]
  refine tr_seq fun K1 hK1 => ?_
  refine tr_region [1, 2, 3] rfl rfl fun K hK => ?_
  iterate 2 refine evR_p ?_
  refine evR_e hK ?_; clear hK K
  refine hK1 _ ?_
  refine tr_seq fun K2 hK2 => ?_
  refine tr_region [1, 3, 7] rfl rfl fun K hK => ?_
  iterate 5 refine evR_p ?_
  refine evR_c (hc := (c39 _ _ (by simp only [List.length_take, maxLen]; omega))) (k := ?_)
  refine evR_p ?_
  refine evR_e hK ?_; clear hK K
  refine hK2 _ ?_
  refine tr_seq fun K3 hK3 => ?_
  refine tr_seq fun K4 hK4 => ?_
  refine tr_region [7, 19, 20, 21] rfl rfl fun K hK => ?_
  iterate 6 refine evR_p ?_
  refine evR_e hK ?_; clear hK K
  refine hK4 _ ?_
  refine tr_block ?_
  -- loop 1: live [7, 19, 20, 21]
  refine tr_loopW (fun m σ => ∃ i, i + m = (r.coef.drop d).length ∧ σ = ⟨[(7, .int .i64 (leastT (r.coef.drop d) (chosenW (r.coef.take d) set) i)), (19, .sl 1 (encI (r.coef.drop d))), (20, .int .i64 (r.coef.drop d).length), (21, .int .i64 (i : Nat))], [(0, .cells (encRw r))], 1⟩) ((r.coef.drop d).length) ?_ ?_
  · exact ⟨_, Wk.refl _, 0, by omega, rfl⟩
  · rintro m σ ⟨i, hi, rfl⟩ KL1 hKL1
    refine tr_seq fun K5 hK5 => ?_
    refine tr_region [7, 19, 20, 21, 22] rfl rfl fun K hK => ?_
    refine evR_p ?_
    refine evR_e hK ?_; clear hK K
    refine hK5 _ ?_
    refine tr_seq fun K6 hK6 => ?_
    refine tr_condB (fun ht1 => ?_) (fun ht1 => ?_)
    · skip
      have hil : i < (r.coef.drop d).length := by omega
      have hl2 : (r.coef.drop d).length ≤ r.coef.length := by simp
      replace hq := And.intro hq (hil)
      refine tr_skip ?_
      (try simp only [thenE, inBlkE])
      refine hK6 _ ?_
      refine tr_seq fun K7 hK7 => ?_
      refine tr_block ?_
      refine tr_seq fun K8 hK8 => ?_
      refine tr_region [7, 9, 19, 20, 21] rfl rfl fun K hK => ?_
      iterate 3 refine evR_p ?_
      refine evR_e hK ?_; clear hK K
      refine hK8 _ ?_
      refine tr_region [7, 19, 20, 21] rfl rfl fun K hK => ?_
      iterate 5 refine evR_p ?_
      refine evR_e hK ?_; clear hK K
      refine hK7 _ ?_
      refine tr_region [7, 19, 20, 21] rfl rfl fun K hK => ?_
      iterate 2 refine evR_p ?_
      refine evR_e hK ?_; clear hK K
      refine hKL1 _ ?_
      exact ⟨m - 1, _, by omega, Wk.refl _, i + 1, by omega, by rw [w64 (x := (i : Int) + 1) (by omega)]; rfl⟩
    · skip
      have hil : i = (r.coef.drop d).length := by omega
      subst hil
      refine tr_exit ?_
      simp only [thenE, inBlkE, Nat.reduceEqDiff, ↓reduceIte]
      refine hK3 _ ?_
      refine tr_seq fun K9 hK9 => ?_
      refine tr_region [6] rfl rfl fun K hK => ?_
      iterate 2 refine evR_p ?_
      refine evR_e hK ?_; clear hK K
      refine hK9 _ ?_
      refine tr_ret ?_
      (try simp only [thenE, inBlkE])
      simp (maxSteps := 4000000) (disch := first | assumption | omega | (simp only [go_sem, *]; done) | (simp only [go_sem, *]; omega)) only [postA, postO, resV1, fzAll, go_sem, hq, Int.reduceToNat, Nat.reduceBEq, Nat.reduceEqDiff, Nat.reduceAdd, Nat.reduceMul, Nat.reduceLeDiff, Nat.reduceLT, Nat.reduceSub, ↓reduceIte, reduceCtorEq]
      all_goals (rfl)
end

theorem c62 (r : Rw) (hm : r.coef.length ≤ maxLen) (d : Nat) (set : Int) (hd : d ≤ r.coef.length) : CallsA Tryd.prog 86 [.agg (encRw r), .ep [.int .i64 d], .ep [.int .i64 set]] (.bool (overB d set r)) := by
  have hq : True := trivial
  refine callsA_of_tr Tryd.func86 rfl (Nat.le_of_ble_eq_true rfl) ?_
  simp only [Tryd.results86, envOf, Nat.reduceAdd]
  refine tr_seq fun K1 hK1 => ?_
  refine tr_region [1, 2, 3] rfl rfl fun K hK => ?_
  iterate 2 refine evR_p ?_
  refine evR_e hK ?_; clear hK K
  refine hK1 _ ?_
  refine tr_seq fun K2 hK2 => ?_
  refine tr_draw [] [4] mixed rfl (by kernel_rfl) rfl fun K hK => ?_
  iterate 3 refine evD_p ?_
  refine evD_c (hc := (c63 r hm d set hd)) (k := ?_)
  iterate 4 refine evD_p ?_
  refine evD_e hK ?_; clear hK K
  refine hK2 _ ?_
  refine tr_ret ?_
  (try simp only [thenE, inBlkE])
  simp (maxSteps := 4000000) (disch := first | assumption | omega | (simp only [go_sem, *]; done) | (simp only [go_sem, *]; omega)) only [postA, postO, resV1, fzAll, go_sem, hq, Int.reduceToNat, Nat.reduceBEq, Nat.reduceEqDiff, Nat.reduceAdd, Nat.reduceMul, Nat.reduceLeDiff, Nat.reduceLT, Nat.reduceSub, ↓reduceIte, reduceCtorEq]
  all_goals (rfl)

end Go.Proofs.YtaaongcfeldcoaaDoor


namespace Go.Proofs.YtaaongcfeldcoaaDoor
open Go.RowKit
set_option linter.unusedVariables false
set_option linter.unusedSimpArgs false
set_option maxRecDepth 100000
attribute [local go_sem] Nat.zero_add Nat.add_zero Nat.mul_one eq_self ne_eq not_true_eq_false not_false_eq_true decide_true decide_false decide_not Bool.false_eq_true List.filter_cons List.filter_nil true_and and_true beq_false beq_true Bool.not_true Bool.not_false Bool.and_true Bool.true_and Option.getD_some Option.getD_none imp_self implies_true Int.toNat_natCast List.cons_append List.nil_append List.map_cons List.map_nil List.length_cons List.length_nil List.getD_cons_zero List.getD_cons_succ List.drop_zero List.drop_succ_cons List.take_succ_cons List.take_zero
attribute [local go_sem] lowN lowQ lowM isAl appF isE isO stpO notIn St.bare evO evDO isEff stp St.get St.slot St.put List.lookup un unL ofVal gof nth pickV pkB_false pkB_true binV unV loadV idxV fldV partV buildV fillV lenV sliV appV appR rowsV winV V.parts V.okp V.sc Mem.look_cons Mem.look_nil V.cl V.clL AObj.clo fzAll exps St.fz Mem.fz V.fz V.fzL AObj.fz Option.isSome_some Option.isSome_none Bool.or_true Bool.true_or Bool.or_false Bool.false_or false_and and_false false_or or_false   arT_29 arT_57  arT_33   arT_112 arT_95  arT_88 boolT_29 boolT_3 boolT_36 boolT_4 boolT_92 flatT_29 flatT_3 flatT_36 flatT_4 flatT_92 intT_3 intT_121  lay_29 lay_73 lay_57 lay_59 lay_3 lay_42 lay_33 lay_35 lay_4  lay_88  lay_92 lay_110 lay_85   okF_14  okF_28    okF_18  okF_21  okF_22                okF_59 okF_60 okF_61  okF_62 okF_63     okF_51 okF_52 okF_53 okF_54  okF_55   okF_56 okF_57 okF_58 okF_32  okF_82 okF_83  okF_84 okF_85 okF_86 okF_87   okF_78 okF_79 okF_80 okF_81  okF_94  okF_40 okF_99 okF_69 okF_68   plT_73 plT_59 plT_35 plT_90 plT_92   slT_29 slT_57  slT_33   slT_112 slT_95  slT_88 stT_73_0   stT_73_3 stT_73_4 stT_73_5 stT_59_0 stT_59_1 stT_59_2 stT_35_0 stT_35_1 stT_35_2 stT_35_3 stT_90_0 stT_90_1 stT_90_2 stT_90_3    zeroT_73 zeroT_59 zeroT_3 zeroT_42 zeroT_33 zeroT_35   zeroT_90 zeroT_92
attribute [local go_sem] List.getElem?_cons_zero List.getElem?_cons_succ List.zip_cons_cons List.zip_nil_left List.zip_nil_right Bool.false_and Bool.and_false List.length_append List.length_set List.length_replicate List.all_cons List.all_nil encI_length encI_getD encR_length encR_getD encRw encPg spl shp AObj.shp rowM isSt isRpS isRd csh AObj.csh forall_const imp_self
attribute [local simp] encI_length encR_length
section
attribute [local go_sem] encS_one encS_leaf encS_length
theorem c60s (rows : List Rw) (hr : rows.length ≤ maxLen) (hm : ∀ r ∈ rows, r.coef.length ≤ maxLen) (n d : Nat) (set : Int) (out : List Stp) (hc : ∀ r ∈ rows, r.coef.length = d + n) (hd : d + n ≤ 12) (hinf : infN rows n d set) (ho : out.length + 2 ^ (n + 1) ≤ 100000)
    (ih : ∀ (m : Nat), m + 1 = n → ∀ (set : Int) (out : List Stp), infN rows m (d + 1) set → out.length + 2 ^ (m + 1) ≤ 100000 → CallsM Tryd.prog 84 [.int .i64 ((d + 1 : Nat) : Int), .int .i64 set, .ptr 1 0, .ptr 0 0, .ptr 2 0] [(3, .row 90 4 (encS out)), (2, .cells [.fn 84 [.ptr 1 0, .ptr 0 0, .ptr 2 0]]), (1, .cells [.own 3]), (0, .cells [.sl 6 (encR rows)])] 4 (.int .i64 ((out).length : Nat)) [(4, .row 90 4 (encS (growN rows m (d + 1) set out))), (2, .cells [.fn 84 [.ptr 1 0, .ptr 0 0, .ptr 2 0]]), (1, .cells [.own 4]), (0, .cells [.sl 6 (encR rows)])] 5) : CallsM Tryd.prog 84 [.int .i64 (d : Nat), .int .i64 set, .ptr 1 0, .ptr 0 0, .ptr 2 0] ([(3, .row 90 4 (encS out)), (2, .cells [.fn 84 [.ptr 1 0, .ptr 0 0, .ptr 2 0]]), (1, .cells [.own 3]), (0, .cells [.sl 6 (encR rows)])]) (4) (.int .i64 (out.length : Nat)) ([(4, .row 90 4 (encS (growN rows n d set out))), (2, .cells [.fn 84 [.ptr 1 0, .ptr 0 0, .ptr 2 0]]), (1, .cells [.own 4]), (0, .cells [.sl 6 (encR rows)])]) (5) := by
  have hw1 : IntKind.i64.wrap ((d : Int) + 1) = ((d + 1 : Nat) : Int) := w64 (by omega)
  have hp2 : 2 ≤ 2 ^ (n + 1) := (by have := Nat.one_le_two_pow (n := n); rw [Nat.pow_succ]; omega)
  have hq := hw1
  refine callsM_of_tr Tryd.func84 rfl (Nat.le_of_ble_eq_true rfl) (Nat.le_of_ble_eq_true rfl) (Nat.le_of_ble_eq_true rfl) ?_
  simp only [Tryd.results84, envOf, gh, gv, List.cons_append, List.nil_append, Nat.reduceAdd]
  refine tr_seq fun K1 hK1 => ?_
  refine tr_region [2, 3, 4, 5, 6, 1000000, 1000001, 1000002, 1000003] rfl rfl fun K hK => ?_
  iterate 3 refine evR_p ?_
  refine evR_e hK ?_; clear hK K
  refine hK1 _ ?_
  refine tr_seq fun K2 hK2 => ?_
  refine tr_region [2, 3, 4, 5, 6, 8, 1000000, 1000001, 1000002, 1000003] rfl rfl fun K hK => ?_
  iterate 3 refine evR_p ?_
  refine evR_e hK ?_; clear hK K
  refine hK2 _ ?_
  refine tr_seq fun K3 hK3 => ?_
  refine tr_region [2, 4, 5, 6, 8, 9, 1000000, 1000001, 1000002, 1000003] rfl rfl fun K hK => ?_
  iterate 2 refine evR_p ?_
  refine evR_c (hc := (c61 rows 86 [.ep [.int .i64 d], .ep [.int .i64 set]] (overB d set) okF_86 rfl (fun r h => c62 r (hm r h) d set (by rw [hc r h]; omega)) hr)) (k := ?_)
  refine evR_p ?_
  refine evR_e hK ?_; clear hK K
  refine hK3 _ ?_
  refine tr_seq fun K4 hK4 => ?_
  refine tr_seq fun K5 hK5 => ?_
  refine tr_region [2, 4, 5, 6, 8, 9, 18, 1000000, 1000001, 1000002, 1000003] rfl rfl fun K hK => ?_
  iterate 2 refine evR_p ?_
  refine evR_e hK ?_; clear hK K
  refine hK5 _ ?_
  refine tr_condB (fun ht1 => ?_) (fun ht1 => ?_)
  · skip
    (first | (have hneg : ¬ (0 ≤ idxOf (overB d set) rows) := ht1; obtain ⟨m, hnm, hi1, hi2⟩ := infN_step hinf hneg; have hg1 := growN_length rows m (d + 1) set (out ++ [⟨d, 0, 0, none⟩]); have hg2 := growN_length rows m (d + 1) (setBit set d) (growN rows m (d + 1) set (out ++ [⟨d, 0, 0, none⟩])); simp only [List.length_append, List.length_cons, List.length_nil] at hg1) | skip)
    refine tr_seq fun K6 hK6 => ?_
    refine tr_region [8, 1000000, 1000001, 1000002, 1000003] rfl rfl fun K hK => ?_
    iterate 3 refine evR_p ?_
    refine evR_bs ?_
    refine evR_p ?_
    refine evR_bs ?_
    iterate 2 refine evR_p ?_
    refine evR_e hK ?_; clear hK K
    refine hK6 _ ?_
    refine tr_seq fun K7 hK7 => ?_
    refine tr_region [7, 1000000, 1000001, 1000002, 1000003] rfl rfl fun K hK => ?_
    iterate 2 refine evR_p ?_
    refine evR_e hK ?_; clear hK K
    refine hK7 _ ?_
    refine tr_ret ?_
    (try simp only [thenE, inBlkE])
    all_goals first | refine ⟨_, (Wk.trans (Wk.ren 6 4 (Nat.le_of_ble_eq_true rfl) (Nat.le_of_ble_eq_true rfl) rfl) (Wk.cut 5 rfl)), ?_⟩ | refine ⟨_, (Wk.trans (Wk.ren 8 4 (Nat.le_of_ble_eq_true rfl) (Nat.le_of_ble_eq_true rfl) rfl) (Wk.cut 5 rfl)), ?_⟩
    simp (maxSteps := 4000000) (disch := first | assumption | omega | (simp only [go_sem, *]; done) | (simp only [go_sem, *]; omega)) only [postM, ghOK, gv, St.ren, St.cut, V.ren, V.renL, AObj.ren, Nat.blt_eq, resV1, go_sem, hq, Int.reduceToNat, Nat.reduceBEq, Nat.reduceEqDiff, Nat.reduceAdd, Nat.reduceMul, Nat.reduceLeDiff, Nat.reduceLT, Nat.reduceSub, ↓reduceIte, reduceCtorEq]
    all_goals ((first | (rw [growN_leaf ht1]; done) | (subst hnm; rw [grow_fin (by omega) growN_at]; simp only [growN, if_neg hneg]; rfl)))
  · skip
    (first | (have hneg : ¬ (0 ≤ idxOf (overB d set) rows) := ht1; obtain ⟨m, hnm, hi1, hi2⟩ := infN_step hinf hneg; have hg1 := growN_length rows m (d + 1) set (out ++ [⟨d, 0, 0, none⟩]); have hg2 := growN_length rows m (d + 1) (setBit set d) (growN rows m (d + 1) set (out ++ [⟨d, 0, 0, none⟩])); simp only [List.length_append, List.length_cons, List.length_nil] at hg1) | skip)
    refine tr_skip ?_
    (try simp only [thenE, inBlkE])
    refine hK4 _ ?_
    refine tr_seq fun K8 hK8 => ?_
    refine tr_region [2, 4, 5, 6, 8, 1000000, 1000001, 1000002, 1000003] rfl rfl fun K hK => ?_
    iterate 3 refine evR_p ?_
    refine evR_bs ?_
    iterate 2 refine evR_p ?_
    refine evR_e hK ?_; clear hK K
    refine hK8 _ ?_
    refine tr_seq fun K9 hK9 => ?_
    refine tr_region [2, 4, 5, 6, 8, 10, 1000000, 1000001, 1000002, 1000003] rfl rfl fun K hK => ?_
    iterate 4 refine evR_p ?_
    refine evR_stepX fun Kq hKq => Or.inr ?_
    simp (maxSteps := 4000000) (disch := first | assumption | omega | (simp only [go_sem, *]; done) | (simp only [go_sem, *]; omega)) only [stpM, go_sem, hq, Int.reduceToNat, Nat.reduceBEq, Nat.reduceEqDiff, Nat.reduceAdd, Nat.reduceMul, Nat.reduceLeDiff, Nat.reduceLT, Nat.reduceSub, ↓reduceIte, reduceCtorEq]
    refine ⟨[0, 1, 2, 6], ?_⟩
    simp (maxSteps := 4000000) (disch := first | assumption | omega | (simp only [go_sem, *]; done) | (simp only [go_sem, *]; omega)) only [V.mapL, V.map, gJ, footJ, inJ, AObj.map, ndJ, ltJ, V.domL, V.dom, AObj.dom, kC, kR, AObj.isC, hJ, backJ, List.any_cons, List.any_nil, Nat.ble_eq, Nat.blt_eq, Nat.reduceLT, Nat.reduceLeDiff, Bool.or_true, Bool.true_or, Bool.or_false, Bool.false_or, Bool.and_self, go_sem, hq, Int.reduceToNat, Nat.reduceBEq, Nat.reduceEqDiff, Nat.reduceAdd, Nat.reduceMul, Nat.reduceLeDiff, Nat.reduceLT, Nat.reduceSub, ↓reduceIte, reduceCtorEq]
    refine ⟨_, _, _, (ih m hnm set _ hi1 (by subst hnm; rw [Nat.pow_succ] at ho; simp only [List.length_append, List.length_cons, List.length_nil]; omega)), ?_⟩
    simp (maxSteps := 4000000) (disch := first | assumption | omega | (simp only [go_sem, *]; done) | (simp only [go_sem, *]; omega)) only [V.mapL, V.map, gJ, footJ, inJ, AObj.map, ndJ, ltJ, V.domL, V.dom, AObj.dom, kC, kR, AObj.isC, hJ, backJ, List.any_cons, List.any_nil, Nat.ble_eq, Nat.blt_eq, Nat.reduceLT, Nat.reduceLeDiff, Bool.or_true, Bool.true_or, Bool.or_false, Bool.false_or, Bool.and_self, go_sem, hq, Int.reduceToNat, Nat.reduceBEq, Nat.reduceEqDiff, Nat.reduceAdd, Nat.reduceMul, Nat.reduceLeDiff, Nat.reduceLT, Nat.reduceSub, ↓reduceIte, reduceCtorEq]
    (repeat (refine And.intro (by first | assumption | omega | decide | (simp; done) | (simp; omega) | (have hq := hvv hgt; omega) | (simp_all; done)) ?_))
    refine hKq _ ?_; clear hKq Kq
    refine evR_p ?_
    refine evR_e hK ?_; clear hK K
    refine hK9 _ ?_
    refine tr_seq fun K10 hK10 => ?_
    refine tr_draw [44] [2, 8, 10, 11, 1000000, 1000001, 1000002, 1000003] mixed rfl (by kernel_rfl) rfl fun K hK => ?_
    iterate 7 refine evD_p ?_
    refine evD_step fun Kq hKq => ?_
    simp (maxSteps := 4000000) (disch := first | assumption | omega | (simp only [go_sem, *]; done) | (simp only [go_sem, *]; omega)) only [go_sem, hq, Int.reduceToNat, Nat.reduceBEq, Nat.reduceEqDiff, Nat.reduceAdd, Nat.reduceMul, Nat.reduceLeDiff, Nat.reduceLT, Nat.reduceSub, ↓reduceIte, reduceCtorEq]
    refine Or.inr ?_
    simp (maxSteps := 4000000) (disch := first | assumption | omega | (simp only [go_sem, *]; done) | (simp only [go_sem, *]; omega)) only [stpM, go_sem, hq, Int.reduceToNat, Nat.reduceBEq, Nat.reduceEqDiff, Nat.reduceAdd, Nat.reduceMul, Nat.reduceLeDiff, Nat.reduceLT, Nat.reduceSub, ↓reduceIte, reduceCtorEq]
    refine ⟨[0, 1, 2, 7], ?_⟩
    simp (maxSteps := 4000000) (disch := first | assumption | omega | (simp only [go_sem, *]; done) | (simp only [go_sem, *]; omega)) only [V.mapL, V.map, gJ, footJ, inJ, AObj.map, ndJ, ltJ, V.domL, V.dom, AObj.dom, kC, kR, AObj.isC, hJ, backJ, List.any_cons, List.any_nil, Nat.ble_eq, Nat.blt_eq, Nat.reduceLT, Nat.reduceLeDiff, Bool.or_true, Bool.true_or, Bool.or_false, Bool.false_or, Bool.and_self, go_sem, hq, Int.reduceToNat, Nat.reduceBEq, Nat.reduceEqDiff, Nat.reduceAdd, Nat.reduceMul, Nat.reduceLeDiff, Nat.reduceLT, Nat.reduceSub, ↓reduceIte, reduceCtorEq]
    refine ⟨_, _, _, (ih m hnm (setBit set d) _ hi2 (by subst hnm; rw [Nat.pow_succ] at ho; omega)), ?_⟩
    simp (maxSteps := 4000000) (disch := first | assumption | omega | (simp only [go_sem, *]; done) | (simp only [go_sem, *]; omega)) only [V.mapL, V.map, gJ, footJ, inJ, AObj.map, ndJ, ltJ, V.domL, V.dom, AObj.dom, kC, kR, AObj.isC, hJ, backJ, List.any_cons, List.any_nil, Nat.ble_eq, Nat.blt_eq, Nat.reduceLT, Nat.reduceLeDiff, Bool.or_true, Bool.true_or, Bool.or_false, Bool.false_or, Bool.and_self, go_sem, hq, Int.reduceToNat, Nat.reduceBEq, Nat.reduceEqDiff, Nat.reduceAdd, Nat.reduceMul, Nat.reduceLeDiff, Nat.reduceLT, Nat.reduceSub, ↓reduceIte, reduceCtorEq]
    (repeat (refine And.intro (by first | assumption | omega | decide | (simp; done) | (simp; omega) | (have hq := hvv hgt; omega) | (simp_all; done)) ?_))
    refine hKq _ ?_; clear hKq Kq
    refine evD_p ?_
    refine evD_e hK ?_; clear hK K
    refine hK10 _ ?_
    refine tr_seq fun K11 hK11 => ?_
    refine tr_draw [999999] [8, 1000000, 1000001, 1000002, 1000003] mixed rfl (by kernel_rfl) rfl fun K hK => ?_
    iterate 12 refine evD_p ?_
    refine evD_e hK ?_; clear hK K
    refine hK11 _ ?_
    refine tr_seq fun K12 hK12 => ?_
    refine tr_region [7, 1000000, 1000001, 1000002, 1000003] rfl rfl fun K hK => ?_
    iterate 2 refine evR_p ?_
    refine evR_e hK ?_; clear hK K
    refine hK12 _ ?_
    refine tr_ret ?_
    (try simp only [thenE, inBlkE])
    all_goals first | refine ⟨_, (Wk.trans (Wk.ren 6 4 (Nat.le_of_ble_eq_true rfl) (Nat.le_of_ble_eq_true rfl) rfl) (Wk.cut 5 rfl)), ?_⟩ | refine ⟨_, (Wk.trans (Wk.ren 8 4 (Nat.le_of_ble_eq_true rfl) (Nat.le_of_ble_eq_true rfl) rfl) (Wk.cut 5 rfl)), ?_⟩
    simp (maxSteps := 4000000) (disch := first | assumption | omega | (simp only [go_sem, *]; done) | (simp only [go_sem, *]; omega)) only [postM, ghOK, gv, St.ren, St.cut, V.ren, V.renL, AObj.ren, Nat.blt_eq, resV1, go_sem, hq, Int.reduceToNat, Nat.reduceBEq, Nat.reduceEqDiff, Nat.reduceAdd, Nat.reduceMul, Nat.reduceLeDiff, Nat.reduceLT, Nat.reduceSub, ↓reduceIte, reduceCtorEq]
    all_goals ((first | (rw [growN_leaf ht1]; done) | (subst hnm; rw [grow_fin (by omega) growN_at]; simp only [growN, if_neg hneg]; rfl)))
end

end Go.Proofs.YtaaongcfeldcoaaDoor


namespace Go.Proofs.YtaaongcfeldcoaaDoor
open Go.RowKit
set_option linter.unusedVariables false
set_option linter.unusedSimpArgs false
set_option maxRecDepth 100000
attribute [local go_sem] Nat.zero_add Nat.add_zero Nat.mul_one eq_self ne_eq not_true_eq_false not_false_eq_true decide_true decide_false decide_not Bool.false_eq_true List.filter_cons List.filter_nil true_and and_true beq_false beq_true Bool.not_true Bool.not_false Bool.and_true Bool.true_and Option.getD_some Option.getD_none imp_self implies_true Int.toNat_natCast List.cons_append List.nil_append List.map_cons List.map_nil List.length_cons List.length_nil List.getD_cons_zero List.getD_cons_succ List.drop_zero List.drop_succ_cons List.take_succ_cons List.take_zero
attribute [local go_sem] lowN lowQ lowM isAl appF isE isO stpO notIn St.bare evO evDO isEff stp St.get St.slot St.put List.lookup un unL ofVal gof nth pickV pkB_false pkB_true binV unV loadV idxV fldV partV buildV fillV lenV sliV appV appR rowsV winV V.parts V.okp V.sc Mem.look_cons Mem.look_nil V.cl V.clL AObj.clo fzAll exps St.fz Mem.fz V.fz V.fzL AObj.fz Option.isSome_some Option.isSome_none Bool.or_true Bool.true_or Bool.or_false Bool.false_or false_and and_false false_or or_false   arT_29 arT_57  arT_33   arT_112 arT_95  arT_88 boolT_29 boolT_3 boolT_36 boolT_4 boolT_92 flatT_29 flatT_3 flatT_36 flatT_4 flatT_92 intT_3 intT_121  lay_29 lay_73 lay_57 lay_59 lay_3 lay_42 lay_33 lay_35 lay_4  lay_88  lay_92 lay_110 lay_85   okF_14  okF_28    okF_18  okF_21  okF_22                okF_59 okF_60 okF_61  okF_62 okF_63     okF_51 okF_52 okF_53 okF_54  okF_55   okF_56 okF_57 okF_58 okF_32  okF_82 okF_83  okF_84 okF_85 okF_86 okF_87   okF_78 okF_79 okF_80 okF_81  okF_94  okF_40 okF_99 okF_69 okF_68   plT_73 plT_59 plT_35 plT_90 plT_92   slT_29 slT_57  slT_33   slT_112 slT_95  slT_88 stT_73_0   stT_73_3 stT_73_4 stT_73_5 stT_59_0 stT_59_1 stT_59_2 stT_35_0 stT_35_1 stT_35_2 stT_35_3 stT_90_0 stT_90_1 stT_90_2 stT_90_3    zeroT_73 zeroT_59 zeroT_3 zeroT_42 zeroT_33 zeroT_35   zeroT_90 zeroT_92
attribute [local go_sem] List.getElem?_cons_zero List.getElem?_cons_succ List.zip_cons_cons List.zip_nil_left List.zip_nil_right Bool.false_and Bool.and_false List.length_append List.length_set List.length_replicate List.all_cons List.all_nil encI_length encI_getD encR_length encR_getD encRw encPg spl shp AObj.shp rowM isSt isRpS isRd csh AObj.csh forall_const imp_self
attribute [local simp] encI_length encR_length
theorem c60 (rows : List Rw) (hr : rows.length ≤ maxLen) : ∀ (n d : Nat) (set : Int) (out : List Stp), (∀ r ∈ rows, r.coef.length = d + n) → d + n ≤ 12 → infN rows n d set → out.length + 2 ^ (n + 1) ≤ 100000 → CallsM Tryd.prog 84 [.int .i64 (d : Nat), .int .i64 set, .ptr 1 0, .ptr 0 0, .ptr 2 0] [(3, .row 90 4 (encS out)), (2, .cells [.fn 84 [.ptr 1 0, .ptr 0 0, .ptr 2 0]]), (1, .cells [.own 3]), (0, .cells [.sl 6 (encR rows)])] 4 (.int .i64 ((out).length : Nat)) [(4, .row 90 4 (encS (growN rows n d set out))), (2, .cells [.fn 84 [.ptr 1 0, .ptr 0 0, .ptr 2 0]]), (1, .cells [.own 4]), (0, .cells [.sl 6 (encR rows)])] 5
  | 0, d, set, out, hc, hd, hi, ho => c60s rows hr (fun r h => by have := hc r h; unfold maxLen; omega) 0 d set out hc hd hi ho fun m hm => by omega
  | n + 1, d, set, out, hc, hd, hi, ho => c60s rows hr (fun r h => by have := hc r h; unfold maxLen; omega) (n + 1) d set out hc hd hi ho fun m hm set out h1 h2 => by
    have : m = n := by omega
    subst this
    exact c60 rows hr m (d + 1) set out (fun r h => by have := hc r h; omega) (by omega) h1 h2
theorem c41 (rows : List Rw) (hr : rows.length ≤ maxLen) (n : Nat) (hn : n ≤ 12) (hc : ∀ r ∈ rows, r.coef.length = n) (hinf : infN rows n 0 0) : CallsA Tryd.prog 63 [.sl 6 (encR rows)] (.sl 4 (encS (growN rows n 0 0 []))) := by
  have hp : 2 ^ (n + 1) ≤ 2 ^ 13 := Nat.pow_le_pow_right (by omega) (by omega)
  have hq : True := trivial
  refine callsA_of_tr Tryd.func63 rfl (Nat.le_of_ble_eq_true rfl) ?_
  simp only [Tryd.results63, envOf, Nat.reduceAdd]
  refine tr_seq fun K1 hK1 => ?_
  refine tr_region [1] rfl rfl fun K hK => ?_
  iterate 2 refine evR_p ?_
  refine evR_e hK ?_; clear hK K
  refine hK1 _ ?_
  refine tr_seq fun K2 hK2 => ?_
  refine tr_region [1, 3] rfl rfl fun K hK => ?_
  refine evR_p ?_
  refine evR_e hK ?_; clear hK K
  refine hK2 _ ?_
  refine tr_seq fun K3 hK3 => ?_
  refine tr_region [1, 3, 4] rfl rfl fun K hK => ?_
  refine evR_p ?_
  refine evR_e hK ?_; clear hK K
  refine hK3 _ ?_
  refine tr_seq fun K4 hK4 => ?_
  refine tr_region [3, 4] rfl rfl fun K hK => ?_
  iterate 2 refine evR_p ?_
  refine evR_e hK ?_; clear hK K
  refine hK4 _ ?_
  refine tr_seq fun K5 hK5 => ?_
  refine tr_wk (Wk.nilown 90 4 1 0 rfl (by decide) rfl) ?_
  try simp only [List.map_cons, List.map_nil, Nat.reduceEqDiff, ↓reduceIte, List.set_cons_zero, List.set_cons_succ, Nat.reduceAdd]
  refine tr_region [3] rfl rfl fun K hK => ?_
  refine evR_p ?_
  refine evR_stepX fun Kq hKq => Or.inr ?_
  simp (maxSteps := 4000000) (disch := first | assumption | omega | (simp only [go_sem, *]; done) | (simp only [go_sem, *]; omega)) only [stpM, go_sem, hq, Int.reduceToNat, Nat.reduceBEq, Nat.reduceEqDiff, Nat.reduceAdd, Nat.reduceMul, Nat.reduceLeDiff, Nat.reduceLT, Nat.reduceSub, ↓reduceIte, reduceCtorEq]
  refine ⟨[0, 1, 2, 3], ?_⟩
  simp (maxSteps := 4000000) (disch := first | assumption | omega | (simp only [go_sem, *]; done) | (simp only [go_sem, *]; omega)) only [V.mapL, V.map, gJ, footJ, inJ, AObj.map, ndJ, ltJ, V.domL, V.dom, AObj.dom, kC, kR, AObj.isC, hJ, backJ, List.any_cons, List.any_nil, Nat.ble_eq, Nat.blt_eq, Nat.reduceLT, Nat.reduceLeDiff, Bool.or_true, Bool.true_or, Bool.or_false, Bool.false_or, Bool.and_self, go_sem, hq, Int.reduceToNat, Nat.reduceBEq, Nat.reduceEqDiff, Nat.reduceAdd, Nat.reduceMul, Nat.reduceLeDiff, Nat.reduceLT, Nat.reduceSub, ↓reduceIte, reduceCtorEq]
  refine ⟨_, _, _, (c60 rows hr n 0 0 [] (fun r h => by rw [hc r h]; omega) (by omega) hinf (by simp only [List.length_nil]; omega)), ?_⟩
  simp (maxSteps := 4000000) (disch := first | assumption | omega | (simp only [go_sem, *]; done) | (simp only [go_sem, *]; omega)) only [V.mapL, V.map, gJ, footJ, inJ, AObj.map, ndJ, ltJ, V.domL, V.dom, AObj.dom, kC, kR, AObj.isC, hJ, backJ, List.any_cons, List.any_nil, Nat.ble_eq, Nat.blt_eq, Nat.reduceLT, Nat.reduceLeDiff, Bool.or_true, Bool.true_or, Bool.or_false, Bool.false_or, Bool.and_self, go_sem, hq, Int.reduceToNat, Nat.reduceBEq, Nat.reduceEqDiff, Nat.reduceAdd, Nat.reduceMul, Nat.reduceLeDiff, Nat.reduceLT, Nat.reduceSub, ↓reduceIte, reduceCtorEq]
  (repeat (refine And.intro (by first | assumption | omega | decide | (simp; done) | (simp; omega) | (have hq := hvv hgt; omega) | (simp_all; done)) ?_))
  refine hKq _ ?_; clear hKq Kq
  refine evR_e hK ?_; clear hK K
  refine hK5 _ ?_
  refine tr_seq fun K6 hK6 => ?_
  refine tr_region [2] rfl rfl fun K hK => ?_
  iterate 2 refine evR_p ?_
  refine evR_e hK ?_; clear hK K
  refine hK6 _ ?_
  refine tr_ret ?_
  (try simp only [thenE, inBlkE])
  simp (maxSteps := 4000000) (disch := first | assumption | omega | (simp only [go_sem, *]; done) | (simp only [go_sem, *]; omega)) only [postA, postO, resV1, fzAll, go_sem, hq, Int.reduceToNat, Nat.reduceBEq, Nat.reduceEqDiff, Nat.reduceAdd, Nat.reduceMul, Nat.reduceLeDiff, Nat.reduceLT, Nat.reduceSub, ↓reduceIte, reduceCtorEq]
  all_goals (skip)

end Go.Proofs.YtaaongcfeldcoaaDoor


namespace Go.Proofs.YtaaongcfeldcoaaDoor
open Go.RowKit
set_option linter.unusedVariables false
set_option linter.unusedSimpArgs false
set_option maxRecDepth 100000
attribute [local go_sem] Nat.zero_add Nat.add_zero Nat.mul_one eq_self ne_eq not_true_eq_false not_false_eq_true decide_true decide_false decide_not Bool.false_eq_true List.filter_cons List.filter_nil true_and and_true beq_false beq_true Bool.not_true Bool.not_false Bool.and_true Bool.true_and Option.getD_some Option.getD_none imp_self implies_true Int.toNat_natCast List.cons_append List.nil_append List.map_cons List.map_nil List.length_cons List.length_nil List.getD_cons_zero List.getD_cons_succ List.drop_zero List.drop_succ_cons List.take_succ_cons List.take_zero
attribute [local go_sem] lowN lowQ lowM isAl appF isE isO stpO notIn St.bare evO evDO isEff stp St.get St.slot St.put List.lookup un unL ofVal gof nth pickV pkB_false pkB_true binV unV loadV idxV fldV partV buildV fillV lenV sliV appV appR rowsV winV V.parts V.okp V.sc Mem.look_cons Mem.look_nil V.cl V.clL AObj.clo fzAll exps St.fz Mem.fz V.fz V.fzL AObj.fz Option.isSome_some Option.isSome_none Bool.or_true Bool.true_or Bool.or_false Bool.false_or false_and and_false false_or or_false   arT_29 arT_57  arT_33   arT_112 arT_95  arT_88 boolT_29 boolT_3 boolT_36 boolT_4 boolT_92 flatT_29 flatT_3 flatT_36 flatT_4 flatT_92 intT_3 intT_121  lay_29 lay_73 lay_57 lay_59 lay_3 lay_42 lay_33 lay_35 lay_4  lay_88  lay_92 lay_110 lay_85   okF_14  okF_28    okF_18  okF_21  okF_22                okF_59 okF_60 okF_61  okF_62 okF_63     okF_51 okF_52 okF_53 okF_54  okF_55   okF_56 okF_57 okF_58 okF_32  okF_82 okF_83  okF_84 okF_85 okF_86 okF_87   okF_78 okF_79 okF_80 okF_81  okF_94  okF_40 okF_99 okF_69 okF_68   plT_73 plT_59 plT_35 plT_90 plT_92   slT_29 slT_57  slT_33   slT_112 slT_95  slT_88 stT_73_0   stT_73_3 stT_73_4 stT_73_5 stT_59_0 stT_59_1 stT_59_2 stT_35_0 stT_35_1 stT_35_2 stT_35_3 stT_90_0 stT_90_1 stT_90_2 stT_90_3    zeroT_73 zeroT_59 zeroT_3 zeroT_42 zeroT_33 zeroT_35   zeroT_90 zeroT_92
attribute [local go_sem] List.getElem?_cons_zero List.getElem?_cons_succ List.zip_cons_cons List.zip_nil_left List.zip_nil_right Bool.false_and Bool.and_false List.length_append List.length_set List.length_replicate List.all_cons List.all_nil encI_length encI_getD encR_length encR_getD encRw encPg spl shp AObj.shp rowM isSt isRpS isRd csh AObj.csh forall_const imp_self
attribute [local simp] encI_length encR_length
theorem c38 (p : Pg) : CallsA Tryd.prog 60 [.agg (encPg p)] (.fn 82 [.ep (encPg p)]) := by
  have hq : True := trivial
  refine callsA_of_tr Tryd.func60 rfl (Nat.le_of_ble_eq_true rfl) ?_
  simp only [Tryd.results60, envOf, Nat.reduceAdd]
  refine tr_seq fun K1 hK1 => ?_
  refine tr_region [1] rfl rfl fun K hK => ?_
  iterate 2 refine evR_p ?_
  refine evR_e hK ?_; clear hK K
  refine hK1 _ ?_
  refine tr_seq fun K2 hK2 => ?_
  refine tr_fz [.ptr 0 0] (by simp (maxSteps := 4000000) (disch := first | assumption | omega | (simp only [go_sem, *]; done) | (simp only [go_sem, *]; omega)) only [go_sem, hq, Int.reduceToNat, Nat.reduceBEq, Nat.reduceEqDiff, Nat.reduceAdd, Nat.reduceMul, Nat.reduceLeDiff, Nat.reduceLT, Nat.reduceSub, ↓reduceIte, reduceCtorEq]; (try rfl)) ?_
  refine tr_region [2] rfl rfl fun K hK => ?_
  iterate 2 refine evR_p ?_
  refine evR_e hK ?_; clear hK K
  refine hK2 _ ?_
  refine tr_ret ?_
  (try simp only [thenE, inBlkE])
  simp (maxSteps := 4000000) (disch := first | assumption | omega | (simp only [go_sem, *]; done) | (simp only [go_sem, *]; omega)) only [postA, postO, resV1, fzAll, go_sem, hq, Int.reduceToNat, Nat.reduceBEq, Nat.reduceEqDiff, Nat.reduceAdd, Nat.reduceMul, Nat.reduceLeDiff, Nat.reduceLT, Nat.reduceSub, ↓reduceIte, reduceCtorEq]
  all_goals (rfl)

theorem c59 (r : Rw) (hm : r.coef.length ≤ maxLen) (set : Int) : CallsA Tryd.prog 83 [.agg (encRw r), .ep [.int .i64 set]] (.bool (keptB r set)) := by
  have hq : True := trivial
  refine callsA_of_tr Tryd.func83 rfl (Nat.le_of_ble_eq_true rfl) ?_
  simp only [Tryd.results83, envOf, Nat.reduceAdd]
  refine tr_seq fun K1 hK1 => ?_
  refine tr_region [1, 2] rfl rfl fun K hK => ?_
  iterate 2 refine evR_p ?_
  refine evR_e hK ?_; clear hK K
  refine hK1 _ ?_
  refine tr_seq fun K2 hK2 => ?_
  refine tr_region [3] rfl rfl fun K hK => ?_
  iterate 2 refine evR_p ?_
  refine evR_c (hc := (c55 r hm set)) (k := ?_)
  refine evR_p ?_
  refine evR_e hK ?_; clear hK K
  refine hK2 _ ?_
  refine tr_ret ?_
  (try simp only [thenE, inBlkE])
  simp (maxSteps := 4000000) (disch := first | assumption | omega | (simp only [go_sem, *]; done) | (simp only [go_sem, *]; omega)) only [postA, postO, resV1, fzAll, go_sem, hq, Int.reduceToNat, Nat.reduceBEq, Nat.reduceEqDiff, Nat.reduceAdd, Nat.reduceMul, Nat.reduceLeDiff, Nat.reduceLT, Nat.reduceSub, ↓reduceIte, reduceCtorEq]
  all_goals (skip)

section
attribute [local go_sem] fzL_mapI
theorem c58 (p : Pg) (hr : p.rows.length ≤ maxLen) (hg : p.gain.length ≤ maxLen) (hc : ∀ r ∈ p.rows, r.coef.length ≤ maxLen) (hv : validB p = true) : SeqA Tryd.prog (Value.int .i64) 82 [.ep (encPg p)] (fun xs => xs = choiceL p) 4096 := by
  obtain ⟨v, hv1, hv2, hv3, hv4⟩ := vars_pow hv
  have hq := And.intro hv1 (hv3)
  refine seqA_of_tr Tryd.func82 rfl (by rw [Tryd.results82]) enok_int (Nat.le_of_ble_eq_true rfl) (Nat.le_of_ble_eq_true rfl) fun l ys C hys hCY => ?_
  obtain ⟨y0, rfl⟩ : ∃ y0, ys = [y0] := by match ys, hys with | [y0], _ => exact ⟨y0, rfl⟩
  simp only [List.zipWith_cons_cons, List.zipWith_nil_left, List.zip_cons_cons, List.zip_nil_left, envOf, List.cons_append, List.nil_append, Nat.reduceAdd] at hCY ⊢
  refine tr_seq fun K1 hK1 => ?_
  refine tr_region [0, 1, 6, 7, 1000000, 1000001] rfl rfl fun K hK => ?_
  iterate 4 refine evR_p ?_
  refine evR_e hK ?_; clear hK K
  refine hK1 _ ?_
  refine tr_block ?_
  -- loop 1: live [0, 1, 6, 7]
  refine tr_loopW (fun m σ => ∃ i : Nat, i + m = 2 ^ v ∧ σ = ⟨[(0, .yl l), (1, .eq y0 (.ep [.int .i64 (v : Nat), .sl 6 (encR p.rows), .sl 1 (encI p.gain)])), (6, .int .i64 ((2 ^ v : Nat) : Int)), (7, .int .i64 (i : Nat)), (1000000, .tup ((chL p.rows i).map (V.int .i64))), (1000001, .bool false)], [], 0⟩) (2 ^ v) ?_ ?_
  · exact ⟨_, Wk.refl _, 0, by omega, rfl⟩
  · rintro m σ ⟨i, hi, rfl⟩ KL1 hKL1
    refine tr_seq fun K2 hK2 => ?_
    refine tr_region [0, 1, 6, 7, 8, 1000000, 1000001] rfl rfl fun K hK => ?_
    refine evR_p ?_
    refine evR_e hK ?_; clear hK K
    refine hK2 _ ?_
    refine tr_seq fun K3 hK3 => ?_
    refine tr_condB (fun ht1 => ?_) (fun ht1 => ?_)
    · skip
      (first | (exfalso; simp_all; done) | skip)
      all_goals
        have hil : i < 2 ^ v := by omega
        have hcl := chL_length p.rows i
        replace hq := And.intro hq (hil)
        refine tr_skip ?_
        (try simp only [thenE, inBlkE])
        refine hK3 _ ?_
        refine tr_seq fun K4 hK4 => ?_
        refine tr_block ?_
        refine tr_seq fun K5 hK5 => ?_
        refine tr_region [0, 1, 3, 6, 7, 1000000, 1000001] rfl rfl fun K hK => ?_
        iterate 3 refine evR_p ?_
        refine evR_e hK ?_; clear hK K
        refine hK5 _ ?_
        refine tr_seq fun K6 hK6 => ?_
        refine tr_region [0, 1, 6, 7, 19, 1000000, 1000001] rfl rfl fun K hK => ?_
        iterate 3 refine evR_p ?_
        refine evR_c (hc := (c46 p.rows 83 [.ep [.int .i64 (i : Nat)]] (fun r => keptB r (i : Nat)) okF_83 rfl (fun r h => c59 r (hc r h) (i : Nat)) hr)) (k := ?_)
        refine evR_p ?_
        iterate 2 refine evR_g ?_
        refine evR_stepY rfl rfl fun Kq hKq => ⟨fun hyt => hCY _ _ _ ?_, fun hyt => ⟨.bool false, hKq _ ?_⟩⟩
        (try simp only [decide_eq_true_eq, decide_eq_false_iff_not, Bool.not_eq_true', Bool.not_eq_false', Bool.and_eq_true, Bool.or_eq_true, Bool.and_eq_false_iff, Bool.or_eq_false_iff, beq_true, beq_false] at hyt)
        simp (maxSteps := 4000000) (disch := first | assumption | omega | (simp only [go_sem, *]; done) | (simp only [go_sem, *]; omega)) only [YI, go_sem, hq, Int.reduceToNat, Nat.reduceBEq, Nat.reduceEqDiff, Nat.reduceAdd, Nat.reduceMul, Nat.reduceLeDiff, Nat.reduceLT, Nat.reduceSub, ↓reduceIte, reduceCtorEq]
        (repeat (refine And.intro (by first | assumption | omega | decide | (simp; done) | (simp; omega) | (have hq := hvv hgt; omega) | (simp_all; done)) ?_))
        refine ⟨((i : Nat) : Int), chL p.rows i, [1], ?_⟩
        (repeat (refine And.intro (by first | rfl | exact (show (chL p.rows i).length < 4096 by omega) | (intro t ht; rw [List.mem_singleton] at ht; subst ht; exact ⟨_, List.mem_singleton.2 rfl, rfl⟩) | (rfl)) ?_))
        refine ⟨hKq _ ?_, hKq _ ?_⟩
        all_goals try simp only [goY, stY, keepE, simE, V.simpl, V.simp, List.cons_append, List.nil_append, St.put, St.slot, List.lookup, Option.getD_some, Nat.reduceBEq]
        all_goals (try clear hKq Kq)
        all_goals (try simp only [decide_eq_true_eq, decide_eq_false_iff_not, Bool.not_eq_true', Bool.not_eq_false', Bool.and_eq_true, Bool.or_eq_true, Bool.and_eq_false_iff, Bool.or_eq_false_iff, beq_true, beq_false] at hyt)
        all_goals
          refine evR_g ?_
          refine evR_p ?_
          refine evR_e hK ?_; clear hK K
          refine hK6 _ ?_
          refine tr_condB (fun ht2 => ?_) (fun ht2 => ?_)
          · skip
            (first | (exfalso; simp_all; done) | skip)
            all_goals
              refine tr_ret ?_
              (try simp only [thenE, inBlkE])
              simp (maxSteps := 4000000) (disch := first | assumption | omega | (simp only [go_sem, *]; done) | (simp only [go_sem, *]; omega)) only [postI, go_sem, hq, Int.reduceToNat, Nat.reduceBEq, Nat.reduceEqDiff, Nat.reduceAdd, Nat.reduceMul, Nat.reduceLeDiff, Nat.reduceLT, Nat.reduceSub, ↓reduceIte, reduceCtorEq]
              all_goals (first | exact Or.inl trivial | exact Or.inl rfl | exact Or.inr ⟨_, by unfold choiceL; rw [hv1]; rfl, rfl⟩)
          · skip
            (first | (exfalso; simp_all; done) | skip)
            all_goals
              refine tr_skip ?_
              (try simp only [thenE, inBlkE])
              refine hK4 _ ?_
              refine tr_region [0, 1, 6, 7, 1000000, 1000001] rfl rfl fun K hK => ?_
              iterate 2 refine evR_p ?_
              refine evR_e hK ?_; clear hK K
              refine hKL1 _ ?_
              first
                | exact ⟨m - 1, _, by omega, Wk.cut 0 (by simp only [St.cutOK, List.all_cons, List.all_nil, V.upto, uptoL_mapI, Bool.and_self, List.filter_nil]), i + 1, by omega, by rw [w64 (x := (i : Int) + 1) (by omega), chL_t hyt]; rfl⟩
                | exact ⟨m - 1, _, by omega, Wk.cut 0 (by simp only [St.cutOK, List.all_cons, List.all_nil, V.upto, uptoL_mapI, Bool.and_self, List.filter_nil]), i + 1, by omega, by rw [w64 (x := (i : Int) + 1) (by omega), chL_f hyt]; rfl⟩
    · skip
      (first | (exfalso; simp_all; done) | skip)
      all_goals
        have hil : i = 2 ^ v := by omega
        subst hil
        refine tr_exit ?_
        simp only [thenE, inBlkE, Nat.reduceEqDiff, ↓reduceIte]
        simp (maxSteps := 4000000) (disch := first | assumption | omega | (simp only [go_sem, *]; done) | (simp only [go_sem, *]; omega)) only [postI, go_sem, hq, Int.reduceToNat, Nat.reduceBEq, Nat.reduceEqDiff, Nat.reduceAdd, Nat.reduceMul, Nat.reduceLeDiff, Nat.reduceLT, Nat.reduceSub, ↓reduceIte, reduceCtorEq]
        all_goals (first | exact Or.inl trivial | exact Or.inl rfl | exact Or.inr ⟨_, by unfold choiceL; rw [hv1]; rfl, rfl⟩)
end

end Go.Proofs.YtaaongcfeldcoaaDoor


namespace Go.Proofs.YtaaongcfeldcoaaDoor
open Go.RowKit
set_option linter.unusedVariables false
set_option linter.unusedSimpArgs false
set_option maxRecDepth 100000
attribute [local go_sem] Nat.zero_add Nat.add_zero Nat.mul_one eq_self ne_eq not_true_eq_false not_false_eq_true decide_true decide_false decide_not Bool.false_eq_true List.filter_cons List.filter_nil true_and and_true beq_false beq_true Bool.not_true Bool.not_false Bool.and_true Bool.true_and Option.getD_some Option.getD_none imp_self implies_true Int.toNat_natCast List.cons_append List.nil_append List.map_cons List.map_nil List.length_cons List.length_nil List.getD_cons_zero List.getD_cons_succ List.drop_zero List.drop_succ_cons List.take_succ_cons List.take_zero
attribute [local go_sem] lowN lowQ lowM isAl appF isE isO stpO notIn St.bare evO evDO isEff stp St.get St.slot St.put List.lookup un unL ofVal gof nth pickV pkB_false pkB_true binV unV loadV idxV fldV partV buildV fillV lenV sliV appV appR rowsV winV V.parts V.okp V.sc Mem.look_cons Mem.look_nil V.cl V.clL AObj.clo fzAll exps St.fz Mem.fz V.fz V.fzL AObj.fz Option.isSome_some Option.isSome_none Bool.or_true Bool.true_or Bool.or_false Bool.false_or false_and and_false false_or or_false   arT_29 arT_57  arT_33   arT_112 arT_95  arT_88 boolT_29 boolT_3 boolT_36 boolT_4 boolT_92 flatT_29 flatT_3 flatT_36 flatT_4 flatT_92 intT_3 intT_121  lay_29 lay_73 lay_57 lay_59 lay_3 lay_42 lay_33 lay_35 lay_4  lay_88  lay_92 lay_110 lay_85   okF_14  okF_28    okF_18  okF_21  okF_22                okF_59 okF_60 okF_61  okF_62 okF_63     okF_51 okF_52 okF_53 okF_54  okF_55   okF_56 okF_57 okF_58 okF_32  okF_82 okF_83  okF_84 okF_85 okF_86 okF_87   okF_78 okF_79 okF_80 okF_81  okF_94  okF_40 okF_99 okF_69 okF_68   plT_73 plT_59 plT_35 plT_90 plT_92   slT_29 slT_57  slT_33   slT_112 slT_95  slT_88 stT_73_0   stT_73_3 stT_73_4 stT_73_5 stT_59_0 stT_59_1 stT_59_2 stT_35_0 stT_35_1 stT_35_2 stT_35_3 stT_90_0 stT_90_1 stT_90_2 stT_90_3    zeroT_73 zeroT_59 zeroT_3 zeroT_42 zeroT_33 zeroT_35   zeroT_90 zeroT_92
attribute [local go_sem] List.getElem?_cons_zero List.getElem?_cons_succ List.zip_cons_cons List.zip_nil_left List.zip_nil_right Bool.false_and Bool.and_false List.length_append List.length_set List.length_replicate List.all_cons List.all_nil encI_length encI_getD encR_length encR_getD encRw encPg spl shp AObj.shp rowM isSt isRpS isRd csh AObj.csh forall_const imp_self
attribute [local simp] encI_length encR_length
section
attribute [local go_sem] encR_takeA encR_one
set_option maxHeartbeats 2000000 in
theorem c14 (p : Pg) (hr : p.rows.length ≤ maxLen) (hg : p.gain.length ≤ maxLen) (hc : ∀ r ∈ p.rows, r.coef.length ≤ maxLen) (hv : validB p = true) : CallsA Tryd.prog 28 [.agg (encPg p)] (.tup [.agg (encSol (solveW p)), .int .i64 0]) := by
  obtain ⟨q0, q1, q2, q3, q4, q5⟩ := validB_all hv
  have hq := hv
  refine callsA_of_tr Tryd.func28 rfl (Nat.le_of_ble_eq_true rfl) ?_
  simp only [Tryd.results28, envOf, Nat.reduceAdd]
  refine tr_seq fun K1 hK1 => ?_
  refine tr_region [1, 2] rfl rfl fun K hK => ?_
  iterate 3 refine evR_p ?_
  refine evR_e hK ?_; clear hK K
  refine hK1 _ ?_
  refine tr_seq fun K2 hK2 => ?_
  refine tr_seq fun K3 hK3 => ?_
  refine tr_region [1, 2, 10] rfl rfl fun K hK => ?_
  refine evR_p ?_
  refine evR_c (hc := (c20 p hr hg hc)) (k := ?_)
  refine evR_p ?_
  refine evR_e hK ?_; clear hK K
  refine hK3 _ ?_
  refine tr_condB (fun ht1 => ?_) (fun ht1 => ?_)
  · skip
    (first | (exfalso; simp_all; done) | skip)
    all_goals
      refine tr_seq fun K4 hK4 => ?_
      refine tr_region [2, 3] rfl rfl fun K hK => ?_
      iterate 3 refine evR_p ?_
      refine evR_e hK ?_; clear hK K
      refine hK4 _ ?_
      refine tr_ret ?_
      (try simp only [thenE, inBlkE])
      simp (maxSteps := 4000000) (disch := first | assumption | omega | (simp only [go_sem, *]; done) | (simp only [go_sem, *]; omega)) only [postA, postO, resV1, fzAll, go_sem, hq, Int.reduceToNat, Nat.reduceBEq, Nat.reduceEqDiff, Nat.reduceAdd, Nat.reduceMul, Nat.reduceLeDiff, Nat.reduceLT, Nat.reduceSub, ↓reduceIte, reduceCtorEq]
      all_goals (simp only [encSol, solveW]; first | (rw [solRows_t (by assumption)]; done) | (rw [solRows_f (by assumption)]; done) | (rw [solRows_t (by assumption)]; rfl) | (rw [solRows_f (by assumption)]; rfl))
  · skip
    (first | (exfalso; simp_all; done) | skip)
    all_goals
      refine tr_skip ?_
      (try simp only [thenE, inBlkE])
      refine hK2 _ ?_
      refine tr_seq fun K5 hK5 => ?_
      refine tr_region [1, 2, 4] rfl rfl fun K hK => ?_
      refine evR_p ?_
      refine evR_e hK ?_; clear hK K
      refine hK5 _ ?_
      refine tr_seq fun K6 hK6 => ?_
      refine tr_seq fun K7 hK7 => ?_
      refine tr_region [1, 2, 4, 13] rfl rfl fun K hK => ?_
      refine evR_p ?_
      refine evR_c (hc := (c38 p)) (k := ?_)
      refine evR_e hK ?_; clear hK K
      refine hK7 _ ?_
      refine tr_block ?_
      -- loop over a function 1: live [1, 2, 4]
      refine tr_rangeFunc (en := V.int .i64) (c58 p hr hg hc hv) enok_int.rel rfl rfl okF_82 rfl (fun pre σ => σ = ⟨[(1, .ptr 0 0), (2, .ptr 1 0), (4, .ptr 2 0)], [(2, .cells [.bool (bestW p.gain pre).1, .int .i64 (bestW p.gain pre).2.1, .int .i64 (bestW p.gain pre).2.2, .nsl]), (1, .cells [.bool false, .int .i64 0, .int .i64 0, .nsl]), (0, .cells (encPg p))], 3⟩) [1, 2, 4] ?_ ?_ ?_
      · rfl
      · rintro pre x σ rfl hpre KL1 hKL1 KA1 hKA1
        simp only [St.rd, List.filter_cons, List.filter_nil, List.map_cons, List.map_nil, Nat.blt_eq, Nat.reduceLT, ↓reduceIte, List.cons_append, List.nil_append, Nat.reduceAdd]
        refine tr_region [1, 4, 5, 2000001, 2000002, 2000004] rfl rfl fun K hK => ?_
        refine evR_p ?_
        refine evR_e hK ?_; clear hK K
        refine hKA1 _ ?_
        refine tr_block ?_
        refine tr_seq fun K8 hK8 => ?_
        refine tr_region [4, 5, 6, 2000001, 2000002, 2000004] rfl rfl fun K hK => ?_
        iterate 3 refine evR_p ?_
        refine evR_c (hc := (c39 _ _ hg)) (k := ?_)
        refine evR_p ?_
        refine evR_e hK ?_; clear hK K
        refine hK8 _ ?_
        refine tr_seq fun K9 hK9 => ?_
        refine tr_region [4, 5, 6, 27, 2000001, 2000002, 2000004] rfl rfl fun K hK => ?_
        iterate 4 refine evR_p ?_
        iterate 4 refine evR_g ?_
        refine evR_p ?_
        refine evR_e hK ?_; clear hK K
        refine hK9 _ ?_
        refine tr_condB (fun ht2 => ?_) (fun ht2 => ?_)
        · skip
          (first | (exfalso; simp_all; done) | skip)
          all_goals
            refine tr_region [2000001, 2000002, 2000004] rfl rfl fun K hK => ?_
            iterate 4 refine evR_p ?_
            refine evR_e hK ?_; clear hK K
            refine hKL1 _ ?_
            simp only [St.bk, List.filterMap_cons, List.filterMap_nil, Nat.ble_eq, Nat.reduceLeDiff, ↓reduceIte, Nat.reduceSub]
            first
              | exact ⟨_, Wk.refl _, by rw [bestW_snoc, bestS_t (by first | (rcases ht2 with h | h <;> simp [h]; done) | (simp_all; done))]; rfl⟩
              | exact ⟨_, Wk.refl _, by rw [bestW_snoc, bestS_f (by first | (simp only [ht2, Bool.not_true, Bool.false_or]; done) | (simp_all; done))]; rfl⟩
        · skip
          (first | (exfalso; simp_all; done) | skip)
          all_goals
            refine tr_skip ?_
            (try simp only [thenE, inBlkE])
            refine hKL1 _ ?_
            simp only [St.bk, List.filterMap_cons, List.filterMap_nil, Nat.ble_eq, Nat.reduceLeDiff, ↓reduceIte, Nat.reduceSub]
            first
              | exact ⟨_, Wk.refl _, by rw [bestW_snoc, bestS_t (by first | (rcases ht2 with h | h <;> simp [h]; done) | (simp_all; done))]; rfl⟩
              | exact ⟨_, Wk.refl _, by rw [bestW_snoc, bestS_f (by first | (simp only [ht2, Bool.not_true, Bool.false_or]; done) | (simp_all; done))]; rfl⟩
      · rintro pre σ hS rfl
        subst hS
        have eb : bestW p.gain (choiceL p) = solveB p := rfl
        rw [eb]
        obtain ⟨vn, hvn⟩ := Int.eq_ofNat_of_zero_le q0
        refine hK6 _ ?_
        refine tr_seq fun K10 hK10 => ?_
        refine tr_region [1, 2, 4, 7] rfl rfl fun K hK => ?_
        iterate 3 refine evR_p ?_
        refine evR_e hK ?_; clear hK K
        refine hK10 _ ?_
        refine tr_seq fun K11 hK11 => ?_
        refine tr_seq fun K12 hK12 => ?_
        refine tr_region [1, 2, 4, 7, 34] rfl rfl fun K hK => ?_
        iterate 2 refine evR_p ?_
        refine evR_e hK ?_; clear hK K
        refine hK12 _ ?_
        refine tr_condB (fun ht3 => ?_) (fun ht3 => ?_)
        · skip
          (first | (exfalso; simp_all; done) | skip)
          all_goals
            refine tr_draw [45] [2, 4, 7] mixed rfl (by kernel_rfl) rfl fun K hK => ?_
            iterate 9 refine evD_p ?_
            refine evD_c (hc := (c40 p (by omega) _)) (k := ?_)
            refine evD_bs ?_
            iterate 2 refine evD_p ?_
            refine evD_e hK ?_; clear hK K
            refine hK11 _ ?_
            refine tr_seq fun K13 hK13 => ?_
            refine tr_region [2, 4] rfl rfl fun K hK => ?_
            refine evR_p ?_
            refine evR_c (hc := (solRows_t (p := p) (b := solveB p) (by assumption) ▸ (c41 (solRows p (solveB p)) (by rw [solRows_t (by assumption)]; simp only [List.length_append, List.length_cons, List.length_nil, maxLen]; omega) p.vars.toNat (by omega) (solRows_coef hv _) (solve_inf hv)))) (k := ?_)
            iterate 2 refine evR_p ?_
            refine evR_e hK ?_; clear hK K
            refine hK13 _ ?_
            refine tr_seq fun K14 hK14 => ?_
            refine tr_region [2, 3] rfl rfl fun K hK => ?_
            iterate 3 refine evR_p ?_
            refine evR_e hK ?_; clear hK K
            refine hK14 _ ?_
            refine tr_ret ?_
            (try simp only [thenE, inBlkE])
            simp (maxSteps := 4000000) (disch := first | assumption | omega | (simp only [go_sem, *]; done) | (simp only [go_sem, *]; omega)) only [postA, postO, resV1, fzAll, go_sem, hq, Int.reduceToNat, Nat.reduceBEq, Nat.reduceEqDiff, Nat.reduceAdd, Nat.reduceMul, Nat.reduceLeDiff, Nat.reduceLT, Nat.reduceSub, ↓reduceIte, reduceCtorEq]
            all_goals (simp only [encSol, solveW]; first | (rw [solRows_t (by assumption)]; done) | (rw [solRows_f (by assumption)]; done) | (rw [solRows_t (by assumption)]; rfl) | (rw [solRows_f (by assumption)]; rfl))
        · skip
          (first | (exfalso; simp_all; done) | skip)
          all_goals
            refine tr_skip ?_
            (try simp only [thenE, inBlkE])
            refine hK11 _ ?_
            refine tr_seq fun K15 hK15 => ?_
            refine tr_region [2, 4] rfl rfl fun K hK => ?_
            refine evR_p ?_
            refine evR_c (hc := (solRows_f (p := p) (b := solveB p) (by assumption) ▸ (c41 (solRows p (solveB p)) (by rw [solRows_f (by assumption)]; exact hr) p.vars.toNat (by omega) (solRows_coef hv _) (solve_inf hv)))) (k := ?_)
            iterate 2 refine evR_p ?_
            refine evR_e hK ?_; clear hK K
            refine hK15 _ ?_
            refine tr_seq fun K16 hK16 => ?_
            refine tr_region [2, 3] rfl rfl fun K hK => ?_
            iterate 3 refine evR_p ?_
            refine evR_e hK ?_; clear hK K
            refine hK16 _ ?_
            refine tr_ret ?_
            (try simp only [thenE, inBlkE])
            simp (maxSteps := 4000000) (disch := first | assumption | omega | (simp only [go_sem, *]; done) | (simp only [go_sem, *]; omega)) only [postA, postO, resV1, fzAll, go_sem, hq, Int.reduceToNat, Nat.reduceBEq, Nat.reduceEqDiff, Nat.reduceAdd, Nat.reduceMul, Nat.reduceLeDiff, Nat.reduceLT, Nat.reduceSub, ↓reduceIte, reduceCtorEq]
            all_goals (simp only [encSol, solveW]; first | (rw [solRows_t (by assumption)]; done) | (rw [solRows_f (by assumption)]; done) | (rw [solRows_t (by assumption)]; rfl) | (rw [solRows_f (by assumption)]; rfl))
end

section
attribute [local go_sem] encR_takeA encR_one
set_option maxHeartbeats 2000000 in
theorem c14n (p : Pg) (hr : p.rows.length ≤ maxLen) (hg : p.gain.length ≤ maxLen) (hc : ∀ r ∈ p.rows, r.coef.length ≤ maxLen) (hv : validB p = false) : CallsA Tryd.prog 28 [.agg (encPg p)] (.tup [.agg [.bool false, .int .i64 0, .int .i64 0, .nsl], .int .i64 230]) := by
  have hq := hv
  refine callsA_of_tr Tryd.func28 rfl (Nat.le_of_ble_eq_true rfl) ?_
  simp only [Tryd.results28, envOf, Nat.reduceAdd]
  refine tr_seq fun K1 hK1 => ?_
  refine tr_region [1, 2] rfl rfl fun K hK => ?_
  iterate 3 refine evR_p ?_
  refine evR_e hK ?_; clear hK K
  refine hK1 _ ?_
  refine tr_seq fun K2 hK2 => ?_
  refine tr_seq fun K3 hK3 => ?_
  refine tr_region [1, 2, 10] rfl rfl fun K hK => ?_
  refine evR_p ?_
  refine evR_c (hc := (c20 p hr hg hc)) (k := ?_)
  refine evR_p ?_
  refine evR_e hK ?_; clear hK K
  refine hK3 _ ?_
  refine tr_condB (fun ht1 => ?_) (fun ht1 => ?_)
  · skip
    (first | (exfalso; simp_all; done) | skip)
    all_goals
      refine tr_seq fun K4 hK4 => ?_
      refine tr_region [2, 3] rfl rfl fun K hK => ?_
      iterate 3 refine evR_p ?_
      refine evR_e hK ?_; clear hK K
      refine hK4 _ ?_
      refine tr_ret ?_
      (try simp only [thenE, inBlkE])
      simp (maxSteps := 4000000) (disch := first | assumption | omega | (simp only [go_sem, *]; done) | (simp only [go_sem, *]; omega)) only [postA, postO, resV1, fzAll, go_sem, hq, Int.reduceToNat, Nat.reduceBEq, Nat.reduceEqDiff, Nat.reduceAdd, Nat.reduceMul, Nat.reduceLeDiff, Nat.reduceLT, Nat.reduceSub, ↓reduceIte, reduceCtorEq]
      all_goals (rfl)
  · skip
    (first | (exfalso; simp_all; done) | skip)
    all_goals
      refine tr_skip ?_
      (try simp only [thenE, inBlkE])
      refine hK2 _ ?_
      refine tr_seq fun K5 hK5 => ?_
      refine tr_region [1, 2, 4] rfl rfl fun K hK => ?_
      refine evR_p ?_
      refine evR_e hK ?_; clear hK K
      refine hK5 _ ?_
      refine tr_seq fun K6 hK6 => ?_
      refine tr_seq fun K7 hK7 => ?_
      refine tr_region [1, 2, 4, 13] rfl rfl fun K hK => ?_
      refine evR_p ?_
      refine evR_c (hc := (c38 p)) (k := ?_)
      refine evR_e hK ?_; clear hK K
      refine hK7 _ ?_
      refine tr_block ?_
      -- loop over a function 1: live [1, 2, 4]
      refine tr_rangeFunc (en := V.int .i64) (c58 p hr hg hc hv) enok_int.rel rfl rfl okF_82 rfl (fun pre σ => σ = ⟨[(1, .ptr 0 0), (2, .ptr 1 0), (4, .ptr 2 0)], [(2, .cells [.bool (bestW p.gain pre).1, .int .i64 (bestW p.gain pre).2.1, .int .i64 (bestW p.gain pre).2.2, .nsl]), (1, .cells [.bool false, .int .i64 0, .int .i64 0, .nsl]), (0, .cells (encPg p))], 3⟩) [1, 2, 4] ?_ ?_ ?_
      · rfl
      · rintro pre x σ rfl hpre KL1 hKL1 KA1 hKA1
        simp only [St.rd, List.filter_cons, List.filter_nil, List.map_cons, List.map_nil, Nat.blt_eq, Nat.reduceLT, ↓reduceIte, List.cons_append, List.nil_append, Nat.reduceAdd]
        refine tr_region [1, 4, 5, 2000001, 2000002, 2000004] rfl rfl fun K hK => ?_
        refine evR_p ?_
        refine evR_e hK ?_; clear hK K
        refine hKA1 _ ?_
        refine tr_block ?_
        refine tr_seq fun K8 hK8 => ?_
        refine tr_region [4, 5, 6, 2000001, 2000002, 2000004] rfl rfl fun K hK => ?_
        iterate 3 refine evR_p ?_
        refine evR_c (hc := (c39 _ _ hg)) (k := ?_)
        refine evR_p ?_
        refine evR_e hK ?_; clear hK K
        refine hK8 _ ?_
        refine tr_seq fun K9 hK9 => ?_
        refine tr_region [4, 5, 6, 27, 2000001, 2000002, 2000004] rfl rfl fun K hK => ?_
        iterate 4 refine evR_p ?_
        iterate 4 refine evR_g ?_
        refine evR_p ?_
        refine evR_e hK ?_; clear hK K
        refine hK9 _ ?_
        refine tr_condB (fun ht2 => ?_) (fun ht2 => ?_)
        · skip
          (first | (exfalso; simp_all; done) | skip)
          all_goals
            refine tr_region [2000001, 2000002, 2000004] rfl rfl fun K hK => ?_
            iterate 4 refine evR_p ?_
            refine evR_e hK ?_; clear hK K
            refine hKL1 _ ?_
            simp only [St.bk, List.filterMap_cons, List.filterMap_nil, Nat.ble_eq, Nat.reduceLeDiff, ↓reduceIte, Nat.reduceSub]
            first
              | exact ⟨_, Wk.refl _, by rw [bestW_snoc, bestS_t (by first | (rcases ht2 with h | h <;> simp [h]; done) | (simp_all; done))]; rfl⟩
              | exact ⟨_, Wk.refl _, by rw [bestW_snoc, bestS_f (by first | (simp only [ht2, Bool.not_true, Bool.false_or]; done) | (simp_all; done))]; rfl⟩
        · skip
          (first | (exfalso; simp_all; done) | skip)
          all_goals
            refine tr_skip ?_
            (try simp only [thenE, inBlkE])
            refine hKL1 _ ?_
            simp only [St.bk, List.filterMap_cons, List.filterMap_nil, Nat.ble_eq, Nat.reduceLeDiff, ↓reduceIte, Nat.reduceSub]
            first
              | exact ⟨_, Wk.refl _, by rw [bestW_snoc, bestS_t (by first | (rcases ht2 with h | h <;> simp [h]; done) | (simp_all; done))]; rfl⟩
              | exact ⟨_, Wk.refl _, by rw [bestW_snoc, bestS_f (by first | (simp only [ht2, Bool.not_true, Bool.false_or]; done) | (simp_all; done))]; rfl⟩
      · rintro pre σ hS rfl
        subst hS
        have eb : bestW p.gain (choiceL p) = solveB p := rfl
        rw [eb]
        obtain ⟨vn, hvn⟩ := Int.eq_ofNat_of_zero_le q0
        refine hK6 _ ?_
        refine tr_seq fun K10 hK10 => ?_
        refine tr_region [1, 2, 4, 7] rfl rfl fun K hK => ?_
        iterate 3 refine evR_p ?_
        refine evR_e hK ?_; clear hK K
        refine hK10 _ ?_
        refine tr_seq fun K11 hK11 => ?_
        refine tr_seq fun K12 hK12 => ?_
        refine tr_region [1, 2, 4, 7, 34] rfl rfl fun K hK => ?_
        iterate 2 refine evR_p ?_
        refine evR_e hK ?_; clear hK K
        refine hK12 _ ?_
        refine tr_condB (fun ht3 => ?_) (fun ht3 => ?_)
        · skip
          (first | (exfalso; simp_all; done) | skip)
          all_goals
            refine tr_draw [45] [2, 4, 7] mixed rfl (by kernel_rfl) rfl fun K hK => ?_
            iterate 9 refine evD_p ?_
            refine evD_c (hc := (c40 p (by omega) _)) (k := ?_)
            refine evD_bs ?_
            iterate 2 refine evD_p ?_
            refine evD_e hK ?_; clear hK K
            refine hK11 _ ?_
            refine tr_seq fun K13 hK13 => ?_
            refine tr_region [2, 4] rfl rfl fun K hK => ?_
            refine evR_p ?_
            refine evR_c (hc := (solRows_t (p := p) (b := solveB p) (by assumption) ▸ (c41 (solRows p (solveB p)) (by rw [solRows_t (by assumption)]; simp only [List.length_append, List.length_cons, List.length_nil, maxLen]; omega) p.vars.toNat (by omega) (solRows_coef hv _) (solve_inf hv)))) (k := ?_)
            iterate 2 refine evR_p ?_
            refine evR_e hK ?_; clear hK K
            refine hK13 _ ?_
            refine tr_seq fun K14 hK14 => ?_
            refine tr_region [2, 3] rfl rfl fun K hK => ?_
            iterate 3 refine evR_p ?_
            refine evR_e hK ?_; clear hK K
            refine hK14 _ ?_
            refine tr_ret ?_
            (try simp only [thenE, inBlkE])
            simp (maxSteps := 4000000) (disch := first | assumption | omega | (simp only [go_sem, *]; done) | (simp only [go_sem, *]; omega)) only [postA, postO, resV1, fzAll, go_sem, hq, Int.reduceToNat, Nat.reduceBEq, Nat.reduceEqDiff, Nat.reduceAdd, Nat.reduceMul, Nat.reduceLeDiff, Nat.reduceLT, Nat.reduceSub, ↓reduceIte, reduceCtorEq]
            all_goals (rfl)
        · skip
          (first | (exfalso; simp_all; done) | skip)
          all_goals
            refine tr_skip ?_
            (try simp only [thenE, inBlkE])
            refine hK11 _ ?_
            refine tr_seq fun K15 hK15 => ?_
            refine tr_region [2, 4] rfl rfl fun K hK => ?_
            refine evR_p ?_
            refine evR_c (hc := (solRows_f (p := p) (b := solveB p) (by assumption) ▸ (c41 (solRows p (solveB p)) (by rw [solRows_f (by assumption)]; exact hr) p.vars.toNat (by omega) (solRows_coef hv _) (solve_inf hv)))) (k := ?_)
            iterate 2 refine evR_p ?_
            refine evR_e hK ?_; clear hK K
            refine hK15 _ ?_
            refine tr_seq fun K16 hK16 => ?_
            refine tr_region [2, 3] rfl rfl fun K hK => ?_
            iterate 3 refine evR_p ?_
            refine evR_e hK ?_; clear hK K
            refine hK16 _ ?_
            refine tr_ret ?_
            (try simp only [thenE, inBlkE])
            simp (maxSteps := 4000000) (disch := first | assumption | omega | (simp only [go_sem, *]; done) | (simp only [go_sem, *]; omega)) only [postA, postO, resV1, fzAll, go_sem, hq, Int.reduceToNat, Nat.reduceBEq, Nat.reduceEqDiff, Nat.reduceAdd, Nat.reduceMul, Nat.reduceLeDiff, Nat.reduceLT, Nat.reduceSub, ↓reduceIte, reduceCtorEq]
            all_goals (rfl)
end

end Go.Proofs.YtaaongcfeldcoaaDoor


namespace Go.Proofs.YtaaongcfeldcoaaDoor
open Go.RowKit
set_option linter.unusedVariables false
set_option linter.unusedSimpArgs false
set_option maxRecDepth 100000
attribute [local go_sem] Nat.zero_add Nat.add_zero Nat.mul_one eq_self ne_eq not_true_eq_false not_false_eq_true decide_true decide_false decide_not Bool.false_eq_true List.filter_cons List.filter_nil true_and and_true beq_false beq_true Bool.not_true Bool.not_false Bool.and_true Bool.true_and Option.getD_some Option.getD_none imp_self implies_true Int.toNat_natCast List.cons_append List.nil_append List.map_cons List.map_nil List.length_cons List.length_nil List.getD_cons_zero List.getD_cons_succ List.drop_zero List.drop_succ_cons List.take_succ_cons List.take_zero
attribute [local go_sem] lowN lowQ lowM isAl appOwn unw appF isE isO stpO notIn St.bare evO evDO isEff stp St.get St.slot St.put List.lookup un unL ofVal gof nth pickV pkB_false pkB_true binV unV loadV idxV fldV partV buildV fillV lenV sliV appV appR rowsV winV V.parts V.okp V.sc Mem.look_cons Mem.look_nil V.cl V.clL AObj.clo fzAll exps St.fz Mem.fz V.fz V.fzL AObj.fz Option.isSome_some Option.isSome_none Bool.or_true Bool.true_or Bool.or_false Bool.false_or false_and and_false false_or or_false arT_112 arT_22 arT_23 arT_27 arT_28 arT_29 arT_33 arT_52 arT_57 arT_65 arT_76 arT_77 arT_84 arT_88 arT_9 arT_95 boolT_133 boolT_29 boolT_3 boolT_36 boolT_4 boolT_70 boolT_92 flatT_133 flatT_29 flatT_3 flatT_36 flatT_4 flatT_70 flatT_92 intT_121 intT_142 intT_144 intT_145 intT_3 intT_5 lay_110 lay_145 lay_22 lay_23 lay_25 lay_27 lay_28 lay_29 lay_3 lay_31 lay_33 lay_35 lay_4 lay_42 lay_51 lay_56 lay_57 lay_59 lay_70 lay_73 lay_77 lay_79 lay_81 lay_83 lay_84 lay_85 lay_88 lay_92 lay_94 lay_95 okF_10 okF_100 okF_101 okF_102 okF_103 okF_104 okF_105 okF_11 okF_12 okF_122 okF_123 okF_124 okF_125 okF_126 okF_127 okF_13 okF_14 okF_15 okF_16 okF_17 okF_18 okF_19 okF_20 okF_21 okF_22 okF_23 okF_24 okF_25 okF_26 okF_27 okF_28 okF_29 okF_3 okF_30 okF_31 okF_32 okF_33 okF_34 okF_35 okF_36 okF_37 okF_38 okF_39 okF_4 okF_40 okF_41 okF_42 okF_43 okF_44 okF_45 okF_46 okF_47 okF_48 okF_49 okF_5 okF_50 okF_51 okF_52 okF_53 okF_54 okF_55 okF_56 okF_57 okF_58 okF_59 okF_6 okF_60 okF_61 okF_62 okF_63 okF_64 okF_65 okF_66 okF_67 okF_68 okF_69 okF_7 okF_70 okF_71 okF_72 okF_73 okF_74 okF_75 okF_76 okF_77 okF_78 okF_79 okF_8 okF_80 okF_81 okF_82 okF_83 okF_84 okF_85 okF_86 okF_87 okF_88 okF_89 okF_9 okF_90 okF_91 okF_92 okF_93 okF_94 okF_95 okF_96 okF_97 okF_98 okF_99 plT_31 plT_35 plT_51 plT_56 plT_59 plT_70 plT_73 plT_90 plT_92 plT_95 slT_112 slT_22 slT_23 slT_27 slT_28 slT_29 slT_33 slT_52 slT_57 slT_65 slT_76 slT_77 slT_88 slT_95 stT_25_0 stT_25_1 stT_25_2 stT_25_3 stT_25_4 stT_31_0 stT_31_1 stT_31_2 stT_31_3 stT_35_0 stT_35_1 stT_35_2 stT_35_3 stT_51_0 stT_51_1 stT_56_0 stT_56_1 stT_56_2 stT_56_3 stT_59_0 stT_59_1 stT_59_2 stT_73_0 stT_73_3 stT_73_4 stT_73_5 stT_79_0 stT_79_1 stT_79_2 stT_83_0 stT_90_0 stT_90_1 stT_90_2 stT_90_3 strT_76 strT_77 strT_84 strT_9 zeroT_112 zeroT_145 zeroT_3 zeroT_31 zeroT_33 zeroT_35 zeroT_42 zeroT_51 zeroT_56 zeroT_57 zeroT_59 zeroT_70 zeroT_73 zeroT_79 zeroT_83 zeroT_90 zeroT_92 zeroT_95
attribute [local go_sem] List.getElem?_cons_zero List.getElem?_cons_succ List.zip_cons_cons List.zip_nil_left List.zip_nil_right Bool.false_and Bool.and_false List.length_append List.length_set List.length_replicate List.all_cons List.all_nil encI_length encI_getD encR_length encR_getD encRw encPg spl shp AObj.shp rowM isSt isRpS isRd csh AObj.csh forall_const imp_self
attribute [local go_sem] encHr encOf encSp encP2 encSps_length encOfs_length encP2s_length encSps_getD encOfs_getD encP2s_getD
attribute [local simp] encI_length encR_length cellsI_length encSps_length encOfs_length encP2s_length
section
attribute [local go_sem] encPg encSol
theorem k10 (h : Hr) (hv : validH h = true) : CallsA Tryd.prog 10 [.agg (encHr h)] (.tup [.agg (encSol (bestH h)), .int .i64 0]) := by
  have hV := validH_all hv
  have hr : h.rooms.length ≤ maxLen := by have := hV.rl; unfold maxLen; omega
  have ho : h.offers.length ≤ maxLen := by have := hV.ol; unfold maxLen; omega
  have ha : h.apart.length ≤ maxLen := by have := hV.al; unfold maxLen; omega
  have hm : h.must.length ≤ maxLen := by have := hV.ml; unfold maxLen; omega
  have hol := hV.ol
  have hrl := hV.rl
  have hpv := progH_valid hV
  have hq : True := trivial
  refine callsA_of_tr Tryd.func10 rfl (Nat.le_of_ble_eq_true rfl) ?_
  simp only [Tryd.results10, envOf, Nat.reduceAdd]
  refine tr_seq fun K1 hK1 => ?_
  refine tr_region [1, 2] rfl rfl fun K hK => ?_
  iterate 3 refine evR_p ?_
  refine evR_e hK ?_; clear hK K
  refine hK1 _ ?_
  refine tr_seq fun K2 hK2 => ?_
  refine tr_region [2, 4, 5] rfl rfl fun K hK => ?_
  refine evR_p ?_
  refine evR_c (hc := (k20 h hv)) (k := ?_)
  iterate 6 refine evR_p ?_
  refine evR_e hK ?_; clear hK K
  refine hK2 _ ?_
  refine tr_seq fun K3 hK3 => ?_
  refine tr_seq fun K4 hK4 => ?_
  refine tr_region [2, 4, 5, 13] rfl rfl fun K hK => ?_
  iterate 2 refine evR_p ?_
  refine evR_e hK ?_; clear hK K
  refine hK4 _ ?_
  refine tr_condB (fun ht1 => ?_) (fun ht1 => ?_)
  · skip
    (first | (exfalso; simp_all; done) | skip)
    all_goals
      refine tr_seq fun K5 hK5 => ?_
      refine tr_region [2, 3] rfl rfl fun K hK => ?_
      iterate 4 refine evR_p ?_
      refine evR_e hK ?_; clear hK K
      refine hK5 _ ?_
      refine tr_ret ?_
      (try simp only [thenE, inBlkE])
      simp (maxSteps := 4000000) (disch := first | assumption | omega | (simp only [go_sem, *]; done) | (simp only [go_sem, *]; omega)) only [postA, postO, resV1, fzAll, go_sem, hq, Int.reduceToNat, Nat.reduceBEq, Nat.reduceEqDiff, Nat.reduceAdd, Nat.reduceMul, Nat.reduceLeDiff, Nat.reduceLT, Nat.reduceSub, ↓reduceIte, reduceCtorEq]
      all_goals (rfl)
  · skip
    (first | (exfalso; simp_all; done) | skip)
    all_goals
      refine tr_skip ?_
      (try simp only [thenE, inBlkE])
      refine hK3 _ ?_
      refine tr_seq fun K6 hK6 => ?_
      refine tr_region [2, 5, 6] rfl rfl fun K hK => ?_
      refine evR_p ?_
      refine evR_c (hc := (c14 (progH h) (valid_max hpv).1 (valid_max hpv).2.1 (valid_max hpv).2.2 hpv)) (k := ?_)
      iterate 6 refine evR_p ?_
      refine evR_e hK ?_; clear hK K
      refine hK6 _ ?_
      refine tr_seq fun K7 hK7 => ?_
      refine tr_seq fun K8 hK8 => ?_
      refine tr_region [2, 6, 22] rfl rfl fun K hK => ?_
      iterate 2 refine evR_p ?_
      refine evR_e hK ?_; clear hK K
      refine hK8 _ ?_
      refine tr_condB (fun ht2 => ?_) (fun ht2 => ?_)
      · skip
        (first | (exfalso; simp_all; done) | skip)
        all_goals
          refine tr_seq fun K9 hK9 => ?_
          refine tr_region [2, 3] rfl rfl fun K hK => ?_
          iterate 3 refine evR_p ?_
          refine evR_e hK ?_; clear hK K
          refine hK9 _ ?_
          refine tr_ret ?_
          (try simp only [thenE, inBlkE])
          simp (maxSteps := 4000000) (disch := first | assumption | omega | (simp only [go_sem, *]; done) | (simp only [go_sem, *]; omega)) only [postA, postO, resV1, fzAll, go_sem, hq, Int.reduceToNat, Nat.reduceBEq, Nat.reduceEqDiff, Nat.reduceAdd, Nat.reduceMul, Nat.reduceLeDiff, Nat.reduceLT, Nat.reduceSub, ↓reduceIte, reduceCtorEq]
          all_goals (rfl)
      · skip
        (first | (exfalso; simp_all; done) | skip)
        all_goals
          refine tr_skip ?_
          (try simp only [thenE, inBlkE])
          refine hK7 _ ?_
          refine tr_seq fun K10 hK10 => ?_
          refine tr_region [2, 3] rfl rfl fun K hK => ?_
          iterate 3 refine evR_p ?_
          refine evR_e hK ?_; clear hK K
          refine hK10 _ ?_
          refine tr_ret ?_
          (try simp only [thenE, inBlkE])
          simp (maxSteps := 4000000) (disch := first | assumption | omega | (simp only [go_sem, *]; done) | (simp only [go_sem, *]; omega)) only [postA, postO, resV1, fzAll, go_sem, hq, Int.reduceToNat, Nat.reduceBEq, Nat.reduceEqDiff, Nat.reduceAdd, Nat.reduceMul, Nat.reduceLeDiff, Nat.reduceLT, Nat.reduceSub, ↓reduceIte, reduceCtorEq]
          all_goals (rfl)
end

theorem k10n (h : Hr) (hr : h.rooms.length ≤ maxLen) (ho : h.offers.length ≤ maxLen) (ha : h.apart.length ≤ maxLen) (hm : h.must.length ≤ maxLen) (hv : validH h = false) : CallsA Tryd.prog 10 [.agg (encHr h)] (.tup [.agg [.bool false, .int .i64 0, .int .i64 0, .nsl], .int .i64 250]) := by
  have hq : True := trivial
  refine callsA_of_tr Tryd.func10 rfl (Nat.le_of_ble_eq_true rfl) ?_
  simp only [Tryd.results10, envOf, Nat.reduceAdd]
  refine tr_seq fun K1 hK1 => ?_
  refine tr_region [1, 2] rfl rfl fun K hK => ?_
  iterate 3 refine evR_p ?_
  refine evR_e hK ?_; clear hK K
  refine hK1 _ ?_
  refine tr_seq fun K2 hK2 => ?_
  refine tr_region [2, 4, 5] rfl rfl fun K hK => ?_
  refine evR_p ?_
  refine evR_c (hc := (k20n h hr ho ha hm hv)) (k := ?_)
  iterate 6 refine evR_p ?_
  refine evR_e hK ?_; clear hK K
  refine hK2 _ ?_
  refine tr_seq fun K3 hK3 => ?_
  refine tr_seq fun K4 hK4 => ?_
  refine tr_region [2, 4, 5, 13] rfl rfl fun K hK => ?_
  iterate 2 refine evR_p ?_
  refine evR_e hK ?_; clear hK K
  refine hK4 _ ?_
  refine tr_condB (fun ht1 => ?_) (fun ht1 => ?_)
  · skip
    (first | (exfalso; simp_all; done) | skip)
    all_goals
      refine tr_seq fun K5 hK5 => ?_
      refine tr_region [2, 3] rfl rfl fun K hK => ?_
      iterate 4 refine evR_p ?_
      refine evR_e hK ?_; clear hK K
      refine hK5 _ ?_
      refine tr_ret ?_
      (try simp only [thenE, inBlkE])
      simp (maxSteps := 4000000) (disch := first | assumption | omega | (simp only [go_sem, *]; done) | (simp only [go_sem, *]; omega)) only [postA, postO, resV1, fzAll, go_sem, hq, Int.reduceToNat, Nat.reduceBEq, Nat.reduceEqDiff, Nat.reduceAdd, Nat.reduceMul, Nat.reduceLeDiff, Nat.reduceLT, Nat.reduceSub, ↓reduceIte, reduceCtorEq]
      all_goals (rfl)
  · skip
    (first | (exfalso; simp_all; done) | skip)
    all_goals
      refine tr_skip ?_
      (try simp only [thenE, inBlkE])
      refine hK3 _ ?_
      refine tr_seq fun K6 hK6 => ?_
      refine tr_region [2, 5, 6] rfl rfl fun K hK => ?_
      refine evR_p ?_
      refine evR_c (hc := (c14 (progH h) (valid_max hpv).1 (valid_max hpv).2.1 (valid_max hpv).2.2 hpv)) (k := ?_)
      iterate 6 refine evR_p ?_
      refine evR_e hK ?_; clear hK K
      refine hK6 _ ?_
      refine tr_seq fun K7 hK7 => ?_
      refine tr_seq fun K8 hK8 => ?_
      refine tr_region [2, 6, 22] rfl rfl fun K hK => ?_
      iterate 2 refine evR_p ?_
      refine evR_e hK ?_; clear hK K
      refine hK8 _ ?_
      refine tr_condB (fun ht2 => ?_) (fun ht2 => ?_)
      · skip
        (first | (exfalso; simp_all; done) | skip)
        all_goals
          refine tr_seq fun K9 hK9 => ?_
          refine tr_region [2, 3] rfl rfl fun K hK => ?_
          iterate 3 refine evR_p ?_
          refine evR_e hK ?_; clear hK K
          refine hK9 _ ?_
          refine tr_ret ?_
          (try simp only [thenE, inBlkE])
          simp (maxSteps := 4000000) (disch := first | assumption | omega | (simp only [go_sem, *]; done) | (simp only [go_sem, *]; omega)) only [postA, postO, resV1, fzAll, go_sem, hq, Int.reduceToNat, Nat.reduceBEq, Nat.reduceEqDiff, Nat.reduceAdd, Nat.reduceMul, Nat.reduceLeDiff, Nat.reduceLT, Nat.reduceSub, ↓reduceIte, reduceCtorEq]
          all_goals (rfl)
      · skip
        (first | (exfalso; simp_all; done) | skip)
        all_goals
          refine tr_skip ?_
          (try simp only [thenE, inBlkE])
          refine hK7 _ ?_
          refine tr_seq fun K10 hK10 => ?_
          refine tr_region [2, 3] rfl rfl fun K hK => ?_
          iterate 3 refine evR_p ?_
          refine evR_e hK ?_; clear hK K
          refine hK10 _ ?_
          refine tr_ret ?_
          (try simp only [thenE, inBlkE])
          simp (maxSteps := 4000000) (disch := first | assumption | omega | (simp only [go_sem, *]; done) | (simp only [go_sem, *]; omega)) only [postA, postO, resV1, fzAll, go_sem, hq, Int.reduceToNat, Nat.reduceBEq, Nat.reduceEqDiff, Nat.reduceAdd, Nat.reduceMul, Nat.reduceLeDiff, Nat.reduceLT, Nat.reduceSub, ↓reduceIte, reduceCtorEq]
          all_goals (rfl)

end Go.Proofs.YtaaongcfeldcoaaDoor


namespace Go.Proofs.YtaaongcfeldcoaaDoor
open Go.RowKit
set_option linter.unusedVariables false
set_option linter.unusedSimpArgs false
set_option maxRecDepth 100000
attribute [local go_sem] Nat.zero_add Nat.add_zero Nat.mul_one eq_self ne_eq not_true_eq_false not_false_eq_true decide_true decide_false decide_not Bool.false_eq_true List.filter_cons List.filter_nil true_and and_true beq_false beq_true Bool.not_true Bool.not_false Bool.and_true Bool.true_and Option.getD_some Option.getD_none imp_self implies_true Int.toNat_natCast List.cons_append List.nil_append List.map_cons List.map_nil List.length_cons List.length_nil List.getD_cons_zero List.getD_cons_succ List.drop_zero List.drop_succ_cons List.take_succ_cons List.take_zero
attribute [local go_sem] lowN lowQ lowM isAl appOwn unw appF isE isO stpO notIn St.bare evO evDO isEff stp St.get St.slot St.put List.lookup un unL ofVal gof nth pickV pkB_false pkB_true binV unV loadV idxV fldV partV buildV fillV lenV sliV appV appR rowsV winV V.parts V.okp V.sc Mem.look_cons Mem.look_nil V.cl V.clL AObj.clo fzAll exps St.fz Mem.fz V.fz V.fzL AObj.fz Option.isSome_some Option.isSome_none Bool.or_true Bool.true_or Bool.or_false Bool.false_or false_and and_false false_or or_false arT_112 arT_22 arT_23 arT_27 arT_28 arT_29 arT_33 arT_52 arT_57 arT_65 arT_76 arT_77 arT_84 arT_88 arT_9 arT_95 boolT_133 boolT_29 boolT_3 boolT_36 boolT_4 boolT_70 boolT_92 flatT_133 flatT_29 flatT_3 flatT_36 flatT_4 flatT_70 flatT_92 intT_121 intT_142 intT_144 intT_145 intT_3 intT_5 lay_110 lay_145 lay_22 lay_23 lay_25 lay_27 lay_28 lay_29 lay_3 lay_31 lay_33 lay_35 lay_4 lay_42 lay_51 lay_56 lay_57 lay_59 lay_70 lay_73 lay_77 lay_79 lay_81 lay_83 lay_84 lay_85 lay_88 lay_92 lay_94 lay_95 okF_10 okF_100 okF_101 okF_102 okF_103 okF_104 okF_105 okF_11 okF_12 okF_122 okF_123 okF_124 okF_125 okF_126 okF_127 okF_13 okF_14 okF_15 okF_16 okF_17 okF_18 okF_19 okF_20 okF_21 okF_22 okF_23 okF_24 okF_25 okF_26 okF_27 okF_28 okF_29 okF_3 okF_30 okF_31 okF_32 okF_33 okF_34 okF_35 okF_36 okF_37 okF_38 okF_39 okF_4 okF_40 okF_41 okF_42 okF_43 okF_44 okF_45 okF_46 okF_47 okF_48 okF_49 okF_5 okF_50 okF_51 okF_52 okF_53 okF_54 okF_55 okF_56 okF_57 okF_58 okF_59 okF_6 okF_60 okF_61 okF_62 okF_63 okF_64 okF_65 okF_66 okF_67 okF_68 okF_69 okF_7 okF_70 okF_71 okF_72 okF_73 okF_74 okF_75 okF_76 okF_77 okF_78 okF_79 okF_8 okF_80 okF_81 okF_82 okF_83 okF_84 okF_85 okF_86 okF_87 okF_88 okF_89 okF_9 okF_90 okF_91 okF_92 okF_93 okF_94 okF_95 okF_96 okF_97 okF_98 okF_99 plT_31 plT_35 plT_51 plT_56 plT_59 plT_70 plT_73 plT_90 plT_92 plT_95 slT_112 slT_22 slT_23 slT_27 slT_28 slT_29 slT_33 slT_52 slT_57 slT_65 slT_76 slT_77 slT_88 slT_95 stT_25_0 stT_25_1 stT_25_2 stT_25_3 stT_25_4 stT_31_0 stT_31_1 stT_31_2 stT_31_3 stT_35_0 stT_35_1 stT_35_2 stT_35_3 stT_51_0 stT_51_1 stT_56_0 stT_56_1 stT_56_2 stT_56_3 stT_59_0 stT_59_1 stT_59_2 stT_73_0 stT_73_3 stT_73_4 stT_73_5 stT_79_0 stT_79_1 stT_79_2 stT_83_0 stT_90_0 stT_90_1 stT_90_2 stT_90_3 strT_76 strT_77 strT_84 strT_9 zeroT_112 zeroT_145 zeroT_3 zeroT_31 zeroT_33 zeroT_35 zeroT_42 zeroT_51 zeroT_56 zeroT_57 zeroT_59 zeroT_70 zeroT_73 zeroT_79 zeroT_83 zeroT_90 zeroT_92 zeroT_95
attribute [local go_sem] List.getElem?_cons_zero List.getElem?_cons_succ List.zip_cons_cons List.zip_nil_left List.zip_nil_right Bool.false_and Bool.and_false List.length_append List.length_set List.length_replicate List.all_cons List.all_nil encI_length encI_getD encR_length encR_getD encRw encPg spl shp AObj.shp rowM isSt isRpS isRd csh AObj.csh forall_const imp_self
attribute [local go_sem] encHr encOf encSp encP2 encSps_length encOfs_length encP2s_length encSps_getD encOfs_getD encP2s_getD
attribute [local simp] encI_length encR_length cellsI_length encSps_length encOfs_length encP2s_length
section
attribute [local go_sem] encSol
set_option maxHeartbeats 4000000 in
theorem k15 (h : Hr) (hr : h.rooms.length ≤ maxLen) (ho : h.offers.length ≤ maxLen) (ha : h.apart.length ≤ maxLen) (hm : h.must.length ≤ maxLen) (n : Int) : CallsA Tryd.prog 15 [.agg (encHr h), .int .i64 n] (.tup (refV h n)) := by
  have hq := encI_one
  refine callsA_of_tr Tryd.func15 rfl (Nat.le_of_ble_eq_true rfl) ?_
  simp only [Tryd.results15, envOf, Nat.reduceAdd]
  refine tr_seq fun K1 hK1 => ?_
  refine tr_region [1, 2] rfl rfl fun K hK => ?_
  iterate 4 refine evR_p ?_
  refine evR_e hK ?_; clear hK K
  refine hK1 _ ?_
  refine tr_seq fun K2 hK2 => ?_
  refine tr_seq fun K3 hK3 => ?_
  refine tr_region [1, 2, 16] rfl rfl fun K hK => ?_
  refine evR_p ?_
  refine evR_c (hc := (k19 h hr ho ha hm)) (k := ?_)
  iterate 2 refine evR_p ?_
  refine evR_g ?_
  refine evR_gc (hc := (k31 n)) (k := ?_)
  refine evR_g ?_
  refine evR_p ?_
  refine evR_e hK ?_; clear hK K
  refine hK3 _ ?_
  refine tr_condB (fun ht1 => ?_) (fun ht1 => ?_)
  · skip
    (first | (have hrv := ref_no ht1; skip) | (have hvl : validH h = true := ht1.1; have hnl : isInB n 0 11 = true := ht1.2; have hV := validH_all hvl; have hml := hV.ml; have hwv := with_valid hvl (isInB_spec.1 hnl); have hcs := cs_ins (valid_pw hvl) n; replace hq := And.intro hq hcs) | skip)
    refine tr_seq fun K4 hK4 => ?_
    refine tr_region [4, 5, 6] rfl rfl fun K hK => ?_
    iterate 3 refine evR_p ?_
    refine evR_e hK ?_; clear hK K
    refine hK4 _ ?_
    refine tr_ret ?_
    (try simp only [thenE, inBlkE])
    simp (maxSteps := 4000000) (disch := first | assumption | omega | (simp only [go_sem, *]; done) | (simp only [go_sem, *]; omega)) only [postA, postO, resV1, fzAll, go_sem, hq, Int.reduceToNat, Nat.reduceBEq, Nat.reduceEqDiff, Nat.reduceAdd, Nat.reduceMul, Nat.reduceLeDiff, Nat.reduceLT, Nat.reduceSub, ↓reduceIte, reduceCtorEq]
    all_goals (first | (rw [hrv]; done) | (rw [ref_f hvl hnl ht2]; done) | (rw [ref_t hvl hnl ht2]; done))
  · skip
    (first | (have hrv := ref_no ht1; skip) | (have hvl : validH h = true := ht1.1; have hnl : isInB n 0 11 = true := ht1.2; have hV := validH_all hvl; have hml := hV.ml; have hwv := with_valid hvl (isInB_spec.1 hnl); have hcs := cs_ins (valid_pw hvl) n; replace hq := And.intro hq hcs) | skip)
    refine tr_skip ?_
    (try simp only [thenE, inBlkE])
    refine hK2 _ ?_
    refine tr_seq fun K5 hK5 => ?_
    refine tr_region [2] rfl rfl fun K hK => ?_
    iterate 2 refine evR_p ?_
    refine evR_stepX fun Kq hKq => Or.inr ?_
    simp (maxSteps := 4000000) (disch := first | assumption | omega | (simp only [go_sem, *]; done) | (simp only [go_sem, *]; omega)) only [stpM, go_sem, hq, Int.reduceToNat, Nat.reduceBEq, Nat.reduceEqDiff, Nat.reduceAdd, Nat.reduceMul, Nat.reduceLeDiff, Nat.reduceLT, Nat.reduceSub, ↓reduceIte, reduceCtorEq]
    refine ⟨[], ?_⟩
    simp (maxSteps := 4000000) (disch := first | assumption | omega | (simp only [go_sem, *]; done) | (simp only [go_sem, *]; omega)) only [V.mapL, V.map, gJ, footJ, inJ, AObj.map, ndJ, ltJ, V.domL, V.dom, AObj.dom, kC, kR, AObj.isC, hJ, backJ, List.any_cons, List.any_nil, Nat.ble_eq, Nat.blt_eq, Nat.reduceLT, Nat.reduceLeDiff, Bool.or_true, Bool.true_or, Bool.or_false, Bool.false_or, Bool.and_self, go_sem, hq, Int.reduceToNat, Nat.reduceBEq, Nat.reduceEqDiff, Nat.reduceAdd, Nat.reduceMul, Nat.reduceLeDiff, Nat.reduceLT, Nat.reduceSub, ↓reduceIte, reduceCtorEq]
    refine ⟨_, _, _, (k32 h.must (by omega)), ?_⟩
    simp (maxSteps := 4000000) (disch := first | assumption | omega | (simp only [go_sem, *]; done) | (simp only [go_sem, *]; omega)) only [V.mapL, V.map, gJ, footJ, inJ, AObj.map, ndJ, ltJ, V.domL, V.dom, AObj.dom, kC, kR, AObj.isC, hJ, backJ, List.any_cons, List.any_nil, Nat.ble_eq, Nat.blt_eq, Nat.reduceLT, Nat.reduceLeDiff, Bool.or_true, Bool.true_or, Bool.or_false, Bool.false_or, Bool.and_self, go_sem, hq, Int.reduceToNat, Nat.reduceBEq, Nat.reduceEqDiff, Nat.reduceAdd, Nat.reduceMul, Nat.reduceLeDiff, Nat.reduceLT, Nat.reduceSub, ↓reduceIte, reduceCtorEq]
    (repeat (refine And.intro (by first | assumption | omega | decide | (simp; done) | (simp; omega) | (have hq := hvv hgt; omega) | (have hq := hvv hgt.1; omega) | (simp_all; done)) ?_))
    refine hKq _ ?_; clear hKq Kq
    refine evR_p ?_
    refine evR_bs ?_
    iterate 3 refine evR_p ?_
    refine evR_e hK ?_; clear hK K
    refine hK5 _ ?_
    refine tr_seq fun K6 hK6 => ?_
    refine tr_region [2] rfl rfl fun K hK => ?_
    iterate 2 refine evR_p ?_
    refine evR_stepX fun Kq hKq => Or.inr ?_
    simp (maxSteps := 4000000) (disch := first | assumption | omega | (simp only [go_sem, *]; done) | (simp only [go_sem, *]; omega)) only [stpM, go_sem, hq, Int.reduceToNat, Nat.reduceBEq, Nat.reduceEqDiff, Nat.reduceAdd, Nat.reduceMul, Nat.reduceLeDiff, Nat.reduceLT, Nat.reduceSub, ↓reduceIte, reduceCtorEq]
    refine ⟨[2], ?_⟩
    simp (maxSteps := 4000000) (disch := first | assumption | omega | (simp only [go_sem, *]; done) | (simp only [go_sem, *]; omega)) only [V.mapL, V.map, gJ, footJ, inJ, AObj.map, ndJ, ltJ, V.domL, V.dom, AObj.dom, kC, kR, AObj.isC, hJ, backJ, List.any_cons, List.any_nil, Nat.ble_eq, Nat.blt_eq, Nat.reduceLT, Nat.reduceLeDiff, Bool.or_true, Bool.true_or, Bool.or_false, Bool.false_or, Bool.and_self, go_sem, hq, Int.reduceToNat, Nat.reduceBEq, Nat.reduceEqDiff, Nat.reduceAdd, Nat.reduceMul, Nat.reduceLeDiff, Nat.reduceLT, Nat.reduceSub, ↓reduceIte, reduceCtorEq]
    refine ⟨_, _, _, (k33 (h.must ++ [n]) 3 (by simp) (by simp; omega)), ?_⟩
    simp (maxSteps := 4000000) (disch := first | assumption | omega | (simp only [go_sem, *]; done) | (simp only [go_sem, *]; omega)) only [V.mapL, V.map, gJ, footJ, inJ, AObj.map, ndJ, ltJ, V.domL, V.dom, AObj.dom, kC, kR, AObj.isC, hJ, backJ, List.any_cons, List.any_nil, Nat.ble_eq, Nat.blt_eq, Nat.reduceLT, Nat.reduceLeDiff, Bool.or_true, Bool.true_or, Bool.or_false, Bool.false_or, Bool.and_self, go_sem, hq, Int.reduceToNat, Nat.reduceBEq, Nat.reduceEqDiff, Nat.reduceAdd, Nat.reduceMul, Nat.reduceLeDiff, Nat.reduceLT, Nat.reduceSub, ↓reduceIte, reduceCtorEq]
    (repeat (refine And.intro (by first | assumption | omega | decide | (simp; done) | (simp; omega) | (have hq := hvv hgt; omega) | (have hq := hvv hgt.1; omega) | (simp_all; done)) ?_))
    refine hKq _ ?_; clear hKq Kq
    refine evR_e hK ?_; clear hK K
    refine hK6 _ ?_
    refine tr_seq fun K7 hK7 => ?_
    refine tr_region [2] rfl rfl fun K hK => ?_
    iterate 2 refine evR_p ?_
    refine evR_stepX fun Kq hKq => Or.inr ?_
    simp (maxSteps := 4000000) (disch := first | assumption | omega | (simp only [go_sem, *]; done) | (simp only [go_sem, *]; omega)) only [stpM, go_sem, hq, Int.reduceToNat, Nat.reduceBEq, Nat.reduceEqDiff, Nat.reduceAdd, Nat.reduceMul, Nat.reduceLeDiff, Nat.reduceLT, Nat.reduceSub, ↓reduceIte, reduceCtorEq]
    refine ⟨[2], ?_⟩
    simp (maxSteps := 4000000) (disch := first | assumption | omega | (simp only [go_sem, *]; done) | (simp only [go_sem, *]; omega)) only [V.mapL, V.map, gJ, footJ, inJ, AObj.map, ndJ, ltJ, V.domL, V.dom, AObj.dom, kC, kR, AObj.isC, hJ, backJ, List.any_cons, List.any_nil, Nat.ble_eq, Nat.blt_eq, Nat.reduceLT, Nat.reduceLeDiff, Bool.or_true, Bool.true_or, Bool.or_false, Bool.false_or, Bool.and_self, go_sem, hq, Int.reduceToNat, Nat.reduceBEq, Nat.reduceEqDiff, Nat.reduceAdd, Nat.reduceMul, Nat.reduceLeDiff, Nat.reduceLT, Nat.reduceSub, ↓reduceIte, reduceCtorEq]
    refine ⟨_, _, _, (k34 (sortI (h.must ++ [n])) 3 (by rw [sortI_len]; simp) (by rw [sortI_len]; simp; omega)), ?_⟩
    simp (maxSteps := 4000000) (disch := first | assumption | omega | (simp only [go_sem, *]; done) | (simp only [go_sem, *]; omega)) only [V.mapL, V.map, gJ, footJ, inJ, AObj.map, ndJ, ltJ, V.domL, V.dom, AObj.dom, kC, kR, AObj.isC, hJ, backJ, List.any_cons, List.any_nil, Nat.ble_eq, Nat.blt_eq, Nat.reduceLT, Nat.reduceLeDiff, Bool.or_true, Bool.true_or, Bool.or_false, Bool.false_or, Bool.and_self, go_sem, hq, Int.reduceToNat, Nat.reduceBEq, Nat.reduceEqDiff, Nat.reduceAdd, Nat.reduceMul, Nat.reduceLeDiff, Nat.reduceLT, Nat.reduceSub, ↓reduceIte, reduceCtorEq]
    (repeat (refine And.intro (by first | assumption | omega | decide | (simp; done) | (simp; omega) | (have hq := hvv hgt; omega) | (have hq := hvv hgt.1; omega) | (simp_all; done)) ?_))
    refine hKq _ ?_; clear hKq Kq
    iterate 2 refine evR_p ?_
    refine evR_e hK ?_; clear hK K
    refine hK7 _ ?_
    refine tr_seq fun K8 hK8 => ?_
    refine tr_region [7, 8] rfl rfl fun K hK => ?_
    refine evR_p ?_
    refine evR_c (hc := (k10 (withH h n) hwv)) (k := ?_)
    iterate 6 refine evR_p ?_
    refine evR_e hK ?_; clear hK K
    refine hK8 _ ?_
    refine tr_seq fun K9 hK9 => ?_
    refine tr_seq fun K10 hK10 => ?_
    refine tr_region [7, 8, 41] rfl rfl fun K hK => ?_
    iterate 3 refine evR_p ?_
    iterate 2 refine evR_g ?_
    refine evR_p ?_
    refine evR_e hK ?_; clear hK K
    refine hK10 _ ?_
    refine tr_condB (fun ht2 => ?_) (fun ht2 => ?_)
    · skip
      (first | (have hrv := ref_no ht1; skip) | (have hvl : validH h = true := ht1.1; have hnl : isInB n 0 11 = true := ht1.2; have hV := validH_all hvl; have hml := hV.ml; have hwv := with_valid hvl (isInB_spec.1 hnl); have hcs := cs_ins (valid_pw hvl) n; replace hq := And.intro hq hcs) | skip)
      refine tr_seq fun K11 hK11 => ?_
      refine tr_region [4, 5, 6] rfl rfl fun K hK => ?_
      iterate 4 refine evR_p ?_
      refine evR_e hK ?_; clear hK K
      refine hK11 _ ?_
      refine tr_ret ?_
      (try simp only [thenE, inBlkE])
      simp (maxSteps := 4000000) (disch := first | assumption | omega | (simp only [go_sem, *]; done) | (simp only [go_sem, *]; omega)) only [postA, postO, resV1, fzAll, go_sem, hq, Int.reduceToNat, Nat.reduceBEq, Nat.reduceEqDiff, Nat.reduceAdd, Nat.reduceMul, Nat.reduceLeDiff, Nat.reduceLT, Nat.reduceSub, ↓reduceIte, reduceCtorEq]
      all_goals (first | (rw [hrv]; done) | (rw [ref_f hvl hnl ht2]; done) | (rw [ref_t hvl hnl ht2]; done))
    · skip
      (first | (have hrv := ref_no ht1; skip) | (have hvl : validH h = true := ht1.1; have hnl : isInB n 0 11 = true := ht1.2; have hV := validH_all hvl; have hml := hV.ml; have hwv := with_valid hvl (isInB_spec.1 hnl); have hcs := cs_ins (valid_pw hvl) n; replace hq := And.intro hq hcs) | skip)
      refine tr_skip ?_
      (try simp only [thenE, inBlkE])
      refine hK9 _ ?_
      refine tr_seq fun K12 hK12 => ?_
      refine tr_region [4, 5, 6] rfl rfl fun K hK => ?_
      iterate 5 refine evR_p ?_
      refine evR_e hK ?_; clear hK K
      refine hK12 _ ?_
      refine tr_ret ?_
      (try simp only [thenE, inBlkE])
      simp (maxSteps := 4000000) (disch := first | assumption | omega | (simp only [go_sem, *]; done) | (simp only [go_sem, *]; omega)) only [postA, postO, resV1, fzAll, go_sem, hq, Int.reduceToNat, Nat.reduceBEq, Nat.reduceEqDiff, Nat.reduceAdd, Nat.reduceMul, Nat.reduceLeDiff, Nat.reduceLT, Nat.reduceSub, ↓reduceIte, reduceCtorEq]
      all_goals (first | (rw [hrv]; done) | (rw [ref_f hvl hnl ht2]; done) | (rw [ref_t hvl hnl ht2]; done))
end

end Go.Proofs.YtaaongcfeldcoaaDoor


namespace Go.Proofs.YtaaongcfeldcoaaDoor
open Go.RowKit
set_option linter.unusedVariables false
set_option linter.unusedSimpArgs false
set_option maxRecDepth 100000
attribute [local go_sem] Nat.zero_add Nat.add_zero Nat.mul_one eq_self ne_eq not_true_eq_false not_false_eq_true decide_true decide_false decide_not Bool.false_eq_true List.filter_cons List.filter_nil true_and and_true beq_false beq_true Bool.not_true Bool.not_false Bool.and_true Bool.true_and Option.getD_some Option.getD_none imp_self implies_true Int.toNat_natCast List.cons_append List.nil_append List.map_cons List.map_nil List.length_cons List.length_nil List.getD_cons_zero List.getD_cons_succ List.drop_zero List.drop_succ_cons List.take_succ_cons List.take_zero
attribute [local go_sem] lowN lowQ lowM isAl appOwn unw appF isE isO stpO notIn St.bare evO evDO isEff stp St.get St.slot St.put List.lookup un unL ofVal gof nth pickV pkB_false pkB_true binV unV loadV idxV fldV partV buildV fillV lenV sliV appV appR rowsV winV V.parts V.okp V.sc Mem.look_cons Mem.look_nil V.cl V.clL AObj.clo fzAll exps St.fz Mem.fz V.fz V.fzL AObj.fz Option.isSome_some Option.isSome_none Bool.or_true Bool.true_or Bool.or_false Bool.false_or false_and and_false false_or or_false arT_112 arT_22 arT_23 arT_27 arT_28 arT_29 arT_33 arT_52 arT_57 arT_65 arT_76 arT_77 arT_84 arT_88 arT_9 arT_95 boolT_133 boolT_29 boolT_3 boolT_36 boolT_4 boolT_70 boolT_92 flatT_133 flatT_29 flatT_3 flatT_36 flatT_4 flatT_70 flatT_92 intT_121 intT_142 intT_144 intT_145 intT_3 intT_5 lay_110 lay_145 lay_22 lay_23 lay_25 lay_27 lay_28 lay_29 lay_3 lay_31 lay_33 lay_35 lay_4 lay_42 lay_51 lay_56 lay_57 lay_59 lay_70 lay_73 lay_77 lay_79 lay_81 lay_83 lay_84 lay_85 lay_88 lay_92 lay_94 lay_95 okF_10 okF_100 okF_101 okF_102 okF_103 okF_104 okF_105 okF_11 okF_12 okF_122 okF_123 okF_124 okF_125 okF_126 okF_127 okF_13 okF_14 okF_15 okF_16 okF_17 okF_18 okF_19 okF_20 okF_21 okF_22 okF_23 okF_24 okF_25 okF_26 okF_27 okF_28 okF_29 okF_3 okF_30 okF_31 okF_32 okF_33 okF_34 okF_35 okF_36 okF_37 okF_38 okF_39 okF_4 okF_40 okF_41 okF_42 okF_43 okF_44 okF_45 okF_46 okF_47 okF_48 okF_49 okF_5 okF_50 okF_51 okF_52 okF_53 okF_54 okF_55 okF_56 okF_57 okF_58 okF_59 okF_6 okF_60 okF_61 okF_62 okF_63 okF_64 okF_65 okF_66 okF_67 okF_68 okF_69 okF_7 okF_70 okF_71 okF_72 okF_73 okF_74 okF_75 okF_76 okF_77 okF_78 okF_79 okF_8 okF_80 okF_81 okF_82 okF_83 okF_84 okF_85 okF_86 okF_87 okF_88 okF_89 okF_9 okF_90 okF_91 okF_92 okF_93 okF_94 okF_95 okF_96 okF_97 okF_98 okF_99 plT_31 plT_35 plT_51 plT_56 plT_59 plT_70 plT_73 plT_90 plT_92 plT_95 slT_112 slT_22 slT_23 slT_27 slT_28 slT_29 slT_33 slT_52 slT_57 slT_65 slT_76 slT_77 slT_88 slT_95 stT_25_0 stT_25_1 stT_25_2 stT_25_3 stT_25_4 stT_31_0 stT_31_1 stT_31_2 stT_31_3 stT_35_0 stT_35_1 stT_35_2 stT_35_3 stT_51_0 stT_51_1 stT_56_0 stT_56_1 stT_56_2 stT_56_3 stT_59_0 stT_59_1 stT_59_2 stT_73_0 stT_73_3 stT_73_4 stT_73_5 stT_79_0 stT_79_1 stT_79_2 stT_83_0 stT_90_0 stT_90_1 stT_90_2 stT_90_3 strT_76 strT_77 strT_84 strT_9 zeroT_112 zeroT_145 zeroT_3 zeroT_31 zeroT_33 zeroT_35 zeroT_42 zeroT_51 zeroT_56 zeroT_57 zeroT_59 zeroT_70 zeroT_73 zeroT_79 zeroT_83 zeroT_90 zeroT_92 zeroT_95
attribute [local go_sem] List.getElem?_cons_zero List.getElem?_cons_succ List.zip_cons_cons List.zip_nil_left List.zip_nil_right Bool.false_and Bool.and_false List.length_append List.length_set List.length_replicate List.all_cons List.all_nil encI_length encI_getD encR_length encR_getD encRw encPg spl shp AObj.shp rowM isSt isRpS isRd csh AObj.csh forall_const imp_self
attribute [local go_sem] encHr encOf encSp encP2 encSps_length encOfs_length encP2s_length encSps_getD encOfs_getD encP2s_getD
attribute [local simp] encI_length encR_length cellsI_length encSps_length encOfs_length encP2s_length
section
attribute [local go_sem] cellsI_length
theorem k12 (h : Hr) (hr : h.rooms.length ≤ maxLen) (ho : h.offers.length ≤ maxLen) (ha : h.apart.length ≤ maxLen) (hm : h.must.length ≤ maxLen) (s : Int) : CallsA Tryd.prog 12 [.agg (encHr h), .int .i64 s] (.bool (keepsH h s)) := by
  have hq : True := trivial
  refine callsA_of_tr Tryd.func12 rfl (Nat.le_of_ble_eq_true rfl) ?_
  simp only [Tryd.results12, envOf, Nat.reduceAdd]
  refine tr_seq fun K1 hK1 => ?_
  refine tr_region [1, 2] rfl rfl fun K hK => ?_
  iterate 2 refine evR_p ?_
  refine evR_e hK ?_; clear hK K
  refine hK1 _ ?_
  refine tr_seq fun K2 hK2 => ?_
  refine tr_seq fun K3 hK3 => ?_
  refine tr_region [1, 2, 16] rfl rfl fun K hK => ?_
  refine evR_p ?_
  refine evR_c (hc := (k19 h hr ho ha hm)) (k := ?_)
  iterate 2 refine evR_p ?_
  iterate 2 refine evR_g ?_
  refine evR_gch (hc := fun hgt => (k29 h s (validH_all (by simpa using hgt)).ol)) (k := ?_)
  refine evR_g ?_
  refine evR_p ?_
  refine evR_e hK ?_; clear hK K
  refine hK3 _ ?_
  refine tr_condB (fun ht1 => ?_) (fun ht1 => ?_)
  · skip
    (first | (have hkv := keeps_no ht1; skip) | (obtain ⟨hvl, hch⟩ := keeps_yes ht1; have hV := validH_all hvl; have htl := tal_length h s h.offers.length; have hct := cellsI_take (tal h s h.offers.length) 24 htl; have hcd := fun (i : Nat) (hi : i < 4) => kcond h hV _ htl i hi; have hok := fun (i : Nat) (hi : i < 4) => okCond i hi; have hcl := cellsI_cl (tal h s h.offers.length); replace hq := And.intro hq (And.intro htl (And.intro hct hcl))) | skip)
    refine tr_seq fun K4 hK4 => ?_
    refine tr_region [4] rfl rfl fun K hK => ?_
    refine evR_p ?_
    refine evR_e hK ?_; clear hK K
    refine hK4 _ ?_
    refine tr_ret ?_
    (try simp only [thenE, inBlkE])
    simp (maxSteps := 4000000) (disch := first | assumption | omega | (simp only [go_sem, *]; done) | (simp only [go_sem, *]; omega)) only [postA, postO, resV1, fzAll, go_sem, hq, Int.reduceToNat, Nat.reduceBEq, Nat.reduceEqDiff, Nat.reduceAdd, Nat.reduceMul, Nat.reduceLeDiff, Nat.reduceLT, Nat.reduceSub, ↓reduceIte, reduceCtorEq]
    all_goals (first | (rw [hkv]; done) | (rw [keeps_t hvl hch (allTo_no hil (by simpa using ht3))]; done) | (rw [keeps_t hvl hch (allTo_iff.2 hpi)]; done))
  · skip
    (first | (have hkv := keeps_no ht1; skip) | (obtain ⟨hvl, hch⟩ := keeps_yes ht1; have hV := validH_all hvl; have htl := tal_length h s h.offers.length; have hct := cellsI_take (tal h s h.offers.length) 24 htl; have hcd := fun (i : Nat) (hi : i < 4) => kcond h hV _ htl i hi; have hok := fun (i : Nat) (hi : i < 4) => okCond i hi; have hcl := cellsI_cl (tal h s h.offers.length); replace hq := And.intro hq (And.intro htl (And.intro hct hcl))) | skip)
    refine tr_skip ?_
    (try simp only [thenE, inBlkE])
    refine hK2 _ ?_
    refine tr_seq fun K5 hK5 => ?_
    refine tr_region [2, 5] rfl rfl fun K hK => ?_
    iterate 2 refine evR_p ?_
    refine evR_c (hc := (k30 h s hV)) (k := ?_)
    iterate 2 refine evR_p ?_
    refine evR_e hK ?_; clear hK K
    refine hK5 _ ?_
    refine tr_seq fun K6 hK6 => ?_
    refine tr_seq fun K7 hK7 => ?_
    refine tr_region [2, 5, 20, 21] rfl rfl fun K hK => ?_
    iterate 2 refine evR_p ?_
    refine evR_e hK ?_; clear hK K
    refine hK7 _ ?_
    refine tr_block ?_
    -- loop 1: live [2, 5, 20, 21]
    refine tr_loopW (fun m σ => ∃ i : Nat, i + m = 4 ∧ (∀ j, j < i → condB h (tal h s h.offers.length) j = true) ∧ σ = ⟨[(2, .ptr 0 0), (5, .ptr 1 0), (20, .agg [.fn 122 [], .fn 124 [], .fn 125 [], .fn 126 []]), (21, .int .i64 (i : Nat))], [(1, .cells (cellsI (tal h s h.offers.length))), (0, .cells (encHr h))], 2⟩) (4) ?_ ?_
    · exact ⟨_, Wk.refl _, 0, by omega, (by intro j hj; omega), (by rw [show List.drop 24 (cellsI (List.replicate 24 0)) = [] from rfl, List.append_nil]; rfl)⟩
    · rintro m σ ⟨i, hi, hpi, rfl⟩ KL1 hKL1
      refine tr_seq fun K8 hK8 => ?_
      refine tr_region [2, 5, 20, 21, 22] rfl rfl fun K hK => ?_
      refine evR_p ?_
      refine evR_e hK ?_; clear hK K
      refine hK8 _ ?_
      refine tr_seq fun K9 hK9 => ?_
      refine tr_condB (fun ht2 => ?_) (fun ht2 => ?_)
      · skip
        (first | (have hkv := keeps_no ht1; skip) | (obtain ⟨hvl, hch⟩ := keeps_yes ht1; have hV := validH_all hvl; have htl := tal_length h s h.offers.length; have hct := cellsI_take (tal h s h.offers.length) 24 htl; have hcd := fun (i : Nat) (hi : i < 4) => kcond h hV _ htl i hi; have hok := fun (i : Nat) (hi : i < 4) => okCond i hi; have hcl := cellsI_cl (tal h s h.offers.length); replace hq := And.intro hq (And.intro htl (And.intro hct hcl))) | skip)
        have hil : i < 4 := by omega
        have hcf := condF_at hil
        have hki := hok i hil
        replace hq := And.intro hq (And.intro hil (And.intro hcf (hki)))
        refine tr_skip ?_
        (try simp only [thenE, inBlkE])
        refine hK9 _ ?_
        refine tr_seq fun K10 hK10 => ?_
        refine tr_block ?_
        refine tr_seq fun K11 hK11 => ?_
        refine tr_region [2, 5, 7, 20, 21] rfl rfl fun K hK => ?_
        iterate 3 refine evR_p ?_
        refine evR_e hK ?_; clear hK K
        refine hK11 _ ?_
        refine tr_seq fun K12 hK12 => ?_
        refine tr_region [2, 5, 20, 21, 29] rfl rfl fun K hK => ?_
        iterate 4 refine evR_p ?_
        refine evR_c (hc := (hcd i hil)) (k := ?_)
        refine evR_p ?_
        refine evR_e hK ?_; clear hK K
        refine hK12 _ ?_
        refine tr_condB (fun ht3 => ?_) (fun ht3 => ?_)
        · skip
          (first | (have hkv := keeps_no ht1; skip) | (obtain ⟨hvl, hch⟩ := keeps_yes ht1; have hV := validH_all hvl; have htl := tal_length h s h.offers.length; have hct := cellsI_take (tal h s h.offers.length) 24 htl; have hcd := fun (i : Nat) (hi : i < 4) => kcond h hV _ htl i hi; have hok := fun (i : Nat) (hi : i < 4) => okCond i hi; have hcl := cellsI_cl (tal h s h.offers.length); replace hq := And.intro hq (And.intro htl (And.intro hct hcl))) | skip)
          refine tr_seq fun K13 hK13 => ?_
          refine tr_region [4] rfl rfl fun K hK => ?_
          refine evR_p ?_
          refine evR_e hK ?_; clear hK K
          refine hK13 _ ?_
          refine tr_ret ?_
          (try simp only [thenE, inBlkE])
          simp (maxSteps := 4000000) (disch := first | assumption | omega | (simp only [go_sem, *]; done) | (simp only [go_sem, *]; omega)) only [postA, postO, resV1, fzAll, go_sem, hq, Int.reduceToNat, Nat.reduceBEq, Nat.reduceEqDiff, Nat.reduceAdd, Nat.reduceMul, Nat.reduceLeDiff, Nat.reduceLT, Nat.reduceSub, ↓reduceIte, reduceCtorEq]
          all_goals (first | (rw [hkv]; done) | (rw [keeps_t hvl hch (allTo_no hil (by simpa using ht3))]; done) | (rw [keeps_t hvl hch (allTo_iff.2 hpi)]; done))
        · skip
          (first | (have hkv := keeps_no ht1; skip) | (obtain ⟨hvl, hch⟩ := keeps_yes ht1; have hV := validH_all hvl; have htl := tal_length h s h.offers.length; have hct := cellsI_take (tal h s h.offers.length) 24 htl; have hcd := fun (i : Nat) (hi : i < 4) => kcond h hV _ htl i hi; have hok := fun (i : Nat) (hi : i < 4) => okCond i hi; have hcl := cellsI_cl (tal h s h.offers.length); replace hq := And.intro hq (And.intro htl (And.intro hct hcl))) | skip)
          refine tr_skip ?_
          (try simp only [thenE, inBlkE])
          refine hK10 _ ?_
          refine tr_region [2, 5, 20, 21] rfl rfl fun K hK => ?_
          iterate 2 refine evR_p ?_
          refine evR_e hK ?_; clear hK K
          refine hKL1 _ ?_
          exact ⟨m - 1, _, by omega, Wk.cut 2 (by simp [St.cutOK, AObj.upto, V.upto, V.uptoL, cellsI_uptoL, List.all_cons, List.all_nil, List.filter_cons, List.filter_nil, Nat.blt_eq, Nat.reduceLT, Nat.lt_irrefl, decide_true, decide_false, Bool.and_self, Bool.and_true, Bool.true_and, if_true, if_false, ↓reduceIte, Bool.false_eq_true, encHr, encP2]), i + 1, by omega, all_step hpi (by simpa using ht3), by rw [w64 (x := (i : Int) + 1) (by omega)]; rfl⟩
      · skip
        (first | (have hkv := keeps_no ht1; skip) | (obtain ⟨hvl, hch⟩ := keeps_yes ht1; have hV := validH_all hvl; have htl := tal_length h s h.offers.length; have hct := cellsI_take (tal h s h.offers.length) 24 htl; have hcd := fun (i : Nat) (hi : i < 4) => kcond h hV _ htl i hi; have hok := fun (i : Nat) (hi : i < 4) => okCond i hi; have hcl := cellsI_cl (tal h s h.offers.length); replace hq := And.intro hq (And.intro htl (And.intro hct hcl))) | skip)
        have hil : i = 4 := by omega
        subst hil
        refine tr_exit ?_
        simp only [thenE, inBlkE, Nat.reduceEqDiff, ↓reduceIte]
        refine hK6 _ ?_
        refine tr_seq fun K14 hK14 => ?_
        refine tr_region [4] rfl rfl fun K hK => ?_
        refine evR_p ?_
        refine evR_e hK ?_; clear hK K
        refine hK14 _ ?_
        refine tr_ret ?_
        (try simp only [thenE, inBlkE])
        simp (maxSteps := 4000000) (disch := first | assumption | omega | (simp only [go_sem, *]; done) | (simp only [go_sem, *]; omega)) only [postA, postO, resV1, fzAll, go_sem, hq, Int.reduceToNat, Nat.reduceBEq, Nat.reduceEqDiff, Nat.reduceAdd, Nat.reduceMul, Nat.reduceLeDiff, Nat.reduceLT, Nat.reduceSub, ↓reduceIte, reduceCtorEq]
        all_goals (first | (rw [hkv]; done) | (rw [keeps_t hvl hch (allTo_no hil (by simpa using ht3))]; done) | (rw [keeps_t hvl hch (allTo_iff.2 hpi)]; done))
end

end Go.Proofs.YtaaongcfeldcoaaDoor


namespace Go.Proofs.YtaaongcfeldcoaaDoor
open Go.RowKit
set_option linter.unusedVariables false
set_option linter.unusedSimpArgs false
set_option maxRecDepth 100000
attribute [local go_sem] Nat.zero_add Nat.add_zero Nat.mul_one eq_self ne_eq not_true_eq_false not_false_eq_true decide_true decide_false decide_not Bool.false_eq_true List.filter_cons List.filter_nil true_and and_true beq_false beq_true Bool.not_true Bool.not_false Bool.and_true Bool.true_and Option.getD_some Option.getD_none imp_self implies_true Int.toNat_natCast List.cons_append List.nil_append List.map_cons List.map_nil List.length_cons List.length_nil List.getD_cons_zero List.getD_cons_succ List.drop_zero List.drop_succ_cons List.take_succ_cons List.take_zero
attribute [local go_sem] lowN lowQ lowM isAl appOwn unw appF isE isO stpO notIn St.bare evO evDO isEff stp St.get St.slot St.put List.lookup un unL ofVal gof nth pickV pkB_false pkB_true binV unV loadV idxV fldV partV buildV fillV lenV sliV appV appR rowsV winV V.parts V.okp V.sc Mem.look_cons Mem.look_nil V.cl V.clL AObj.clo fzAll exps St.fz Mem.fz V.fz V.fzL AObj.fz Option.isSome_some Option.isSome_none Bool.or_true Bool.true_or Bool.or_false Bool.false_or false_and and_false false_or or_false arT_112 arT_22 arT_23 arT_27 arT_28 arT_29 arT_33 arT_52 arT_57 arT_65 arT_76 arT_77 arT_84 arT_88 arT_9 arT_95 boolT_133 boolT_29 boolT_3 boolT_36 boolT_4 boolT_70 boolT_92 flatT_133 flatT_29 flatT_3 flatT_36 flatT_4 flatT_70 flatT_92 intT_121 intT_142 intT_144 intT_145 intT_3 intT_5 lay_110 lay_145 lay_22 lay_23 lay_25 lay_27 lay_28 lay_29 lay_3 lay_31 lay_33 lay_35 lay_4 lay_42 lay_51 lay_56 lay_57 lay_59 lay_70 lay_73 lay_77 lay_79 lay_81 lay_83 lay_84 lay_85 lay_88 lay_92 lay_94 lay_95 okF_10 okF_100 okF_101 okF_102 okF_103 okF_104 okF_105 okF_11 okF_12 okF_122 okF_123 okF_124 okF_125 okF_126 okF_127 okF_13 okF_14 okF_15 okF_16 okF_17 okF_18 okF_19 okF_20 okF_21 okF_22 okF_23 okF_24 okF_25 okF_26 okF_27 okF_28 okF_29 okF_3 okF_30 okF_31 okF_32 okF_33 okF_34 okF_35 okF_36 okF_37 okF_38 okF_39 okF_4 okF_40 okF_41 okF_42 okF_43 okF_44 okF_45 okF_46 okF_47 okF_48 okF_49 okF_5 okF_50 okF_51 okF_52 okF_53 okF_54 okF_55 okF_56 okF_57 okF_58 okF_59 okF_6 okF_60 okF_61 okF_62 okF_63 okF_64 okF_65 okF_66 okF_67 okF_68 okF_69 okF_7 okF_70 okF_71 okF_72 okF_73 okF_74 okF_75 okF_76 okF_77 okF_78 okF_79 okF_8 okF_80 okF_81 okF_82 okF_83 okF_84 okF_85 okF_86 okF_87 okF_88 okF_89 okF_9 okF_90 okF_91 okF_92 okF_93 okF_94 okF_95 okF_96 okF_97 okF_98 okF_99 plT_31 plT_35 plT_51 plT_56 plT_59 plT_70 plT_73 plT_90 plT_92 plT_95 slT_112 slT_22 slT_23 slT_27 slT_28 slT_29 slT_33 slT_52 slT_57 slT_65 slT_76 slT_77 slT_88 slT_95 stT_25_0 stT_25_1 stT_25_2 stT_25_3 stT_25_4 stT_31_0 stT_31_1 stT_31_2 stT_31_3 stT_35_0 stT_35_1 stT_35_2 stT_35_3 stT_51_0 stT_51_1 stT_56_0 stT_56_1 stT_56_2 stT_56_3 stT_59_0 stT_59_1 stT_59_2 stT_73_0 stT_73_3 stT_73_4 stT_73_5 stT_79_0 stT_79_1 stT_79_2 stT_83_0 stT_90_0 stT_90_1 stT_90_2 stT_90_3 strT_76 strT_77 strT_84 strT_9 zeroT_112 zeroT_145 zeroT_3 zeroT_31 zeroT_33 zeroT_35 zeroT_42 zeroT_51 zeroT_56 zeroT_57 zeroT_59 zeroT_70 zeroT_73 zeroT_79 zeroT_83 zeroT_90 zeroT_92 zeroT_95
attribute [local go_sem] List.getElem?_cons_zero List.getElem?_cons_succ List.zip_cons_cons List.zip_nil_left List.zip_nil_right Bool.false_and Bool.and_false List.length_append List.length_set List.length_replicate List.all_cons List.all_nil encI_length encI_getD encR_length encR_getD encRw encPg spl shp AObj.shp rowM isSt isRpS isRd csh AObj.csh forall_const imp_self
attribute [local go_sem] encHr encOf encSp encP2 encSps_length encOfs_length encP2s_length encSps_getD encOfs_getD encP2s_getD
attribute [local simp] encI_length encR_length cellsI_length encSps_length encOfs_length encP2s_length
section
attribute [local go_sem] cellsI_length cellsI_getD cellsI_dropD
theorem k17 (h : Hr) (hr : h.rooms.length ≤ maxLen) (ho : h.offers.length ≤ maxLen) (ha : h.apart.length ≤ maxLen) (hm : h.must.length ≤ maxLen) (s : Int) : CallsA Tryd.prog 17 [.agg (encHr h), .int .i64 s] (.tup (keptV h s)) := by
  have hq : True := trivial
  refine callsA_of_tr Tryd.func17 rfl (Nat.le_of_ble_eq_true rfl) ?_
  simp only [Tryd.results17, envOf, Nat.reduceAdd]
  refine tr_seq fun K1 hK1 => ?_
  refine tr_region [1, 2] rfl rfl fun K hK => ?_
  iterate 3 refine evR_p ?_
  refine evR_e hK ?_; clear hK K
  refine hK1 _ ?_
  refine tr_seq fun K2 hK2 => ?_
  refine tr_seq fun K3 hK3 => ?_
  refine tr_region [1, 2, 17] rfl rfl fun K hK => ?_
  refine evR_p ?_
  refine evR_c (hc := (k19 h hr ho ha hm)) (k := ?_)
  iterate 2 refine evR_p ?_
  iterate 2 refine evR_g ?_
  refine evR_gch (hc := fun hgt => (k29 h s (validH_all (by simpa using hgt)).ol)) (k := ?_)
  refine evR_g ?_
  refine evR_p ?_
  refine evR_e hK ?_; clear hK K
  refine hK3 _ ?_
  refine tr_condB (fun ht1 => ?_) (fun ht1 => ?_)
  · skip
    (first | (have hkv : keptV h s = [.nsl, .int .i64 250] := kept_no ht1; skip) | (obtain ⟨hvl, hch⟩ := keeps_yes ht1; have hV := validH_all hvl; have htl := tal_length h s h.offers.length; have hct : List.take 12 (cellsI (tal h s h.offers.length)) = cellsI ((tal h s h.offers.length).take 12) := (cellsI_take2 _ 12); have htl2 : ((tal h s h.offers.length).take 12).length = 12 := (by simp [htl]); replace hq := And.intro hq (And.intro htl (And.intro hct htl2))) | skip)
    refine tr_seq fun K4 hK4 => ?_
    refine tr_region [4, 5] rfl rfl fun K hK => ?_
    iterate 2 refine evR_p ?_
    refine evR_e hK ?_; clear hK K
    refine hK4 _ ?_
    refine tr_ret ?_
    (try simp only [thenE, inBlkE])
    simp (maxSteps := 4000000) (disch := first | assumption | omega | (simp only [go_sem, *]; done) | (simp only [go_sem, *]; omega)) only [postA, postO, resV1, fzAll, go_sem, hq, Int.reduceToNat, Nat.reduceBEq, Nat.reduceEqDiff, Nat.reduceAdd, Nat.reduceMul, Nat.reduceLeDiff, Nat.reduceLT, Nat.reduceSub, ↓reduceIte, reduceCtorEq]
    all_goals (first | (rw [hkv]; done) | (rw [kept_t hvl hch]; done))
  · skip
    (first | (have hkv : keptV h s = [.nsl, .int .i64 250] := kept_no ht1; skip) | (obtain ⟨hvl, hch⟩ := keeps_yes ht1; have hV := validH_all hvl; have htl := tal_length h s h.offers.length; have hct : List.take 12 (cellsI (tal h s h.offers.length)) = cellsI ((tal h s h.offers.length).take 12) := (cellsI_take2 _ 12); have htl2 : ((tal h s h.offers.length).take 12).length = 12 := (by simp [htl]); replace hq := And.intro hq (And.intro htl (And.intro hct htl2))) | skip)
    refine tr_skip ?_
    (try simp only [thenE, inBlkE])
    refine hK2 _ ?_
    refine tr_seq fun K5 hK5 => ?_
    refine tr_region [1, 2, 6] rfl rfl fun K hK => ?_
    refine evR_p ?_
    refine evR_e hK ?_; clear hK K
    refine hK5 _ ?_
    refine tr_seq fun K6 hK6 => ?_
    refine tr_seq fun K7 hK7 => ?_
    refine tr_region [6, 21, 22] rfl rfl fun K hK => ?_
    iterate 2 refine evR_p ?_
    refine evR_c (hc := (k30 h s hV)) (k := ?_)
    iterate 2 refine evR_p ?_
    refine evR_e hK ?_; clear hK K
    refine hK7 _ ?_
    refine tr_block ?_
    -- loop 1: live [6, 21, 22]
    refine tr_loopW (fun m σ => ∃ i : Nat, i + m = 12 ∧ σ = ⟨[(6, .own 1), (21, .agg (cellsI ((tal h s h.offers.length).take 12))), (22, .int .i64 (i : Nat))], [(1, .row 3 1 (encI (keptW h s i))), (0, .cells (encHr h))], 2⟩) (12) ?_ ?_
    · exact ⟨_, Wk.nilslot 3 1 6 rfl, 0, by omega, rfl⟩
    · rintro m σ ⟨i, hi, rfl⟩ KL1 hKL1
      refine tr_seq fun K8 hK8 => ?_
      refine tr_region [6, 21, 22, 23] rfl rfl fun K hK => ?_
      refine evR_p ?_
      refine evR_e hK ?_; clear hK K
      refine hK8 _ ?_
      refine tr_seq fun K9 hK9 => ?_
      refine tr_condB (fun ht2 => ?_) (fun ht2 => ?_)
      · skip
        (first | (have hkv : keptV h s = [.nsl, .int .i64 250] := kept_no ht1; skip) | (obtain ⟨hvl, hch⟩ := keeps_yes ht1; have hV := validH_all hvl; have htl := tal_length h s h.offers.length; have hct : List.take 12 (cellsI (tal h s h.offers.length)) = cellsI ((tal h s h.offers.length).take 12) := (cellsI_take2 _ 12); have htl2 : ((tal h s h.offers.length).take 12).length = 12 := (by simp [htl]); replace hq := And.intro hq (And.intro htl (And.intro hct htl2))) | skip)
        have hil : i < 12 := by omega
        have hgk : ((tal h s h.offers.length).take 12).getD i 0 = (tal h s h.offers.length).getD i 0 := by simp [List.getD, List.getElem?_take, hil]
        have hkl := keptW_len h s i
        replace hq := And.intro hq (And.intro hil (hgk))
        refine tr_skip ?_
        (try simp only [thenE, inBlkE])
        refine hK9 _ ?_
        refine tr_seq fun K10 hK10 => ?_
        refine tr_block ?_
        refine tr_seq fun K11 hK11 => ?_
        refine tr_region [6, 7, 8, 21, 22] rfl rfl fun K hK => ?_
        iterate 4 refine evR_p ?_
        refine evR_e hK ?_; clear hK K
        refine hK11 _ ?_
        refine tr_seq fun K12 hK12 => ?_
        refine tr_region [6, 7, 21, 22, 27] rfl rfl fun K hK => ?_
        iterate 2 refine evR_p ?_
        refine evR_e hK ?_; clear hK K
        refine hK12 _ ?_
        refine tr_condB (fun ht3 => ?_) (fun ht3 => ?_)
        · skip
          (first | (have hkv : keptV h s = [.nsl, .int .i64 250] := kept_no ht1; skip) | (obtain ⟨hvl, hch⟩ := keeps_yes ht1; have hV := validH_all hvl; have htl := tal_length h s h.offers.length; have hct : List.take 12 (cellsI (tal h s h.offers.length)) = cellsI ((tal h s h.offers.length).take 12) := (cellsI_take2 _ 12); have htl2 : ((tal h s h.offers.length).take 12).length = 12 := (by simp [htl]); replace hq := And.intro hq (And.intro htl (And.intro hct htl2))) | skip)
          refine tr_region [6, 21, 22] rfl rfl fun K hK => ?_
          iterate 2 refine evR_p ?_
          refine evR_bs ?_
          iterate 2 refine evR_p ?_
          refine evR_e hK ?_; clear hK K
          refine hK10 _ ?_
          refine tr_region [6, 21, 22] rfl rfl fun K hK => ?_
          iterate 2 refine evR_p ?_
          refine evR_e hK ?_; clear hK K
          refine hKL1 _ ?_
          first | exact ⟨m - 1, _, by omega, (Wk.trans (Wk.ren 2 1 (Nat.le_of_ble_eq_true rfl) (Nat.le_of_ble_eq_true rfl) (by simp [St.noSt, St.ren, St.cutOK, St.cut, AObj.no, AObj.upto, AObj.ren, V.no, V.upto, V.ren, V.noL, V.uptoL, V.renL, cellsI_noL, cellsI_uptoL, cellsI_renL, encHr])) (Wk.cut 2 (by simp [St.noSt, St.ren, St.cutOK, St.cut, AObj.no, AObj.upto, AObj.ren, V.no, V.upto, V.ren, V.noL, V.uptoL, V.renL, cellsI_noL, cellsI_uptoL, cellsI_renL, encHr]))), i + 1, by omega, by (rw [w64 (x := (i : Int) + 1) (by omega), keptW_t ht3, encI_snoc]; simp [St.noSt, St.ren, St.cutOK, St.cut, AObj.no, AObj.upto, AObj.ren, V.no, V.upto, V.ren, V.noL, V.uptoL, V.renL, cellsI_noL, cellsI_uptoL, cellsI_renL, encHr])⟩ | exact ⟨m - 1, _, by omega, Wk.cut 2 (by simp [St.cutOK, AObj.upto, V.upto, V.uptoL, cellsI_uptoL, List.all_cons, List.all_nil, List.filter_cons, List.filter_nil, Nat.blt_eq, Nat.reduceLT, Nat.lt_irrefl, decide_true, decide_false, Bool.and_self, Bool.and_true, Bool.true_and, if_true, if_false, ↓reduceIte, Bool.false_eq_true, encHr, encP2]), i + 1, by omega, by rw [w64 (x := (i : Int) + 1) (by omega), keptW_f ht3]; rfl⟩
        · skip
          (first | (have hkv : keptV h s = [.nsl, .int .i64 250] := kept_no ht1; skip) | (obtain ⟨hvl, hch⟩ := keeps_yes ht1; have hV := validH_all hvl; have htl := tal_length h s h.offers.length; have hct : List.take 12 (cellsI (tal h s h.offers.length)) = cellsI ((tal h s h.offers.length).take 12) := (cellsI_take2 _ 12); have htl2 : ((tal h s h.offers.length).take 12).length = 12 := (by simp [htl]); replace hq := And.intro hq (And.intro htl (And.intro hct htl2))) | skip)
          refine tr_skip ?_
          (try simp only [thenE, inBlkE])
          refine hK10 _ ?_
          refine tr_region [6, 21, 22] rfl rfl fun K hK => ?_
          iterate 2 refine evR_p ?_
          refine evR_e hK ?_; clear hK K
          refine hKL1 _ ?_
          first | exact ⟨m - 1, _, by omega, (Wk.trans (Wk.ren 2 1 (Nat.le_of_ble_eq_true rfl) (Nat.le_of_ble_eq_true rfl) (by simp [St.noSt, St.ren, St.cutOK, St.cut, AObj.no, AObj.upto, AObj.ren, V.no, V.upto, V.ren, V.noL, V.uptoL, V.renL, cellsI_noL, cellsI_uptoL, cellsI_renL, encHr])) (Wk.cut 2 (by simp [St.noSt, St.ren, St.cutOK, St.cut, AObj.no, AObj.upto, AObj.ren, V.no, V.upto, V.ren, V.noL, V.uptoL, V.renL, cellsI_noL, cellsI_uptoL, cellsI_renL, encHr]))), i + 1, by omega, by (rw [w64 (x := (i : Int) + 1) (by omega), keptW_t ht3, encI_snoc]; simp [St.noSt, St.ren, St.cutOK, St.cut, AObj.no, AObj.upto, AObj.ren, V.no, V.upto, V.ren, V.noL, V.uptoL, V.renL, cellsI_noL, cellsI_uptoL, cellsI_renL, encHr])⟩ | exact ⟨m - 1, _, by omega, Wk.cut 2 (by simp [St.cutOK, AObj.upto, V.upto, V.uptoL, cellsI_uptoL, List.all_cons, List.all_nil, List.filter_cons, List.filter_nil, Nat.blt_eq, Nat.reduceLT, Nat.lt_irrefl, decide_true, decide_false, Bool.and_self, Bool.and_true, Bool.true_and, if_true, if_false, ↓reduceIte, Bool.false_eq_true, encHr, encP2]), i + 1, by omega, by rw [w64 (x := (i : Int) + 1) (by omega), keptW_f ht3]; rfl⟩
      · skip
        (first | (have hkv : keptV h s = [.nsl, .int .i64 250] := kept_no ht1; skip) | (obtain ⟨hvl, hch⟩ := keeps_yes ht1; have hV := validH_all hvl; have htl := tal_length h s h.offers.length; have hct : List.take 12 (cellsI (tal h s h.offers.length)) = cellsI ((tal h s h.offers.length).take 12) := (cellsI_take2 _ 12); have htl2 : ((tal h s h.offers.length).take 12).length = 12 := (by simp [htl]); replace hq := And.intro hq (And.intro htl (And.intro hct htl2))) | skip)
        have hil : i = 12 := by omega
        subst hil
        refine tr_exit ?_
        simp only [thenE, inBlkE, Nat.reduceEqDiff, ↓reduceIte]
        refine hK6 _ ?_
        refine tr_seq fun K13 hK13 => ?_
        refine tr_region [4, 5] rfl rfl fun K hK => ?_
        iterate 3 refine evR_p ?_
        refine evR_e hK ?_; clear hK K
        refine hK13 _ ?_
        refine tr_ret ?_
        (try simp only [thenE, inBlkE])
        simp (maxSteps := 4000000) (disch := first | assumption | omega | (simp only [go_sem, *]; done) | (simp only [go_sem, *]; omega)) only [postA, postO, resV1, fzAll, go_sem, hq, Int.reduceToNat, Nat.reduceBEq, Nat.reduceEqDiff, Nat.reduceAdd, Nat.reduceMul, Nat.reduceLeDiff, Nat.reduceLT, Nat.reduceSub, ↓reduceIte, reduceCtorEq]
        all_goals (first | (rw [hkv]; done) | (rw [kept_t hvl hch]; done))
end

section
attribute [local go_sem] encT_length
set_option maxHeartbeats 2000000 in
theorem k24 (h : Hr) (hr : h.rooms.length ≤ maxLen) (ho : h.offers.length ≤ maxLen) (ha : h.apart.length ≤ maxLen) (hm : h.must.length ≤ maxLen) (s : Int) : CallsA Tryd.prog 24 [.agg (encHr h), .int .i64 s] (.tup (plcV h s)) := by
  have hq : True := trivial
  refine callsA_of_tr Tryd.func24 rfl (Nat.le_of_ble_eq_true rfl) ?_
  simp only [Tryd.results24, envOf, Nat.reduceAdd]
  refine tr_seq fun K1 hK1 => ?_
  refine tr_region [1, 2] rfl rfl fun K hK => ?_
  iterate 3 refine evR_p ?_
  refine evR_e hK ?_; clear hK K
  refine hK1 _ ?_
  refine tr_seq fun K2 hK2 => ?_
  refine tr_seq fun K3 hK3 => ?_
  refine tr_region [1, 2, 15] rfl rfl fun K hK => ?_
  iterate 2 refine evR_p ?_
  refine evR_c (hc := (k12 h hr ho ha hm s)) (k := ?_)
  refine evR_p ?_
  refine evR_e hK ?_; clear hK K
  refine hK3 _ ?_
  refine tr_condB (fun ht1 => ?_) (fun ht1 => ?_)
  · skip
    (first | (have hkv : plcV h s = [.nsl, .int .i64 250] := (by unfold plcV; rw [ht1]; rfl)) | (have hk : keepsH h s = true := ht1; have hvl := keeps_valid hk; have hV := validH_all hvl; have hol := hV.ol; have hrl := hV.rl) | skip)
    refine tr_seq fun K4 hK4 => ?_
    refine tr_region [4, 5] rfl rfl fun K hK => ?_
    iterate 2 refine evR_p ?_
    refine evR_e hK ?_; clear hK K
    refine hK4 _ ?_
    refine tr_ret ?_
    (try simp only [thenE, inBlkE])
    simp (maxSteps := 4000000) (disch := first | assumption | omega | (simp only [go_sem, *]; done) | (simp only [go_sem, *]; omega)) only [postA, postO, resV1, fzAll, go_sem, hq, Int.reduceToNat, Nat.reduceBEq, Nat.reduceEqDiff, Nat.reduceAdd, Nat.reduceMul, Nat.reduceLeDiff, Nat.reduceLT, Nat.reduceSub, ↓reduceIte, reduceCtorEq]
    all_goals (first | (rw [hkv]; done) | (rw [plcV, hk]; rfl))
  · skip
    (first | (have hkv : plcV h s = [.nsl, .int .i64 250] := (by unfold plcV; rw [ht1]; rfl)) | (have hk : keepsH h s = true := ht1; have hvl := keeps_valid hk; have hV := validH_all hvl; have hol := hV.ol; have hrl := hV.rl) | skip)
    refine tr_skip ?_
    (try simp only [thenE, inBlkE])
    refine hK2 _ ?_
    refine tr_seq fun K5 hK5 => ?_
    refine tr_region [1, 2, 6] rfl rfl fun K hK => ?_
    refine evR_p ?_
    refine evR_e hK ?_; clear hK K
    refine hK5 _ ?_
    refine tr_seq fun K6 hK6 => ?_
    refine tr_seq fun K7 hK7 => ?_
    refine tr_region [1, 2, 6, 17, 18, 19] rfl rfl fun K hK => ?_
    iterate 4 refine evR_p ?_
    refine evR_e hK ?_; clear hK K
    refine hK7 _ ?_
    refine tr_block ?_
    -- loop 1: live [1, 2, 6, 17, 18, 19]
    refine tr_loopW (fun m σ => ∃ k : Nat, k + m = h.rooms.length ∧ σ = ⟨[(1, .int .i64 s), (2, .ptr 0 0), (6, .own 1), (17, .sl 2 (encSps h.rooms)), (18, .int .i64 h.rooms.length), (19, .int .i64 (k : Nat))], [(1, .row 70 3 (encT (plcW h s k))), (0, .cells (encHr h))], 2⟩) (h.rooms.length) ?_ ?_
    · exact ⟨_, Wk.nilslot 70 3 6 rfl, 0, by omega, rfl⟩
    · rintro m σ ⟨k, hk2, rfl⟩ KL1 hKL1
      refine tr_seq fun K8 hK8 => ?_
      refine tr_region [1, 2, 6, 17, 18, 19, 20] rfl rfl fun K hK => ?_
      refine evR_p ?_
      refine evR_e hK ?_; clear hK K
      refine hK8 _ ?_
      refine tr_seq fun K9 hK9 => ?_
      refine tr_condB (fun ht2 => ?_) (fun ht2 => ?_)
      · skip
        (first | (have hkv : plcV h s = [.nsl, .int .i64 250] := (by unfold plcV; rw [ht1]; rfl)) | (have hk : keepsH h s = true := ht1; have hvl := keeps_valid hk; have hV := validH_all hvl; have hol := hV.ol; have hrl := hV.rl) | skip)
        have hkl : k < h.rooms.length := by omega
        have hpl := plcW_len h s k
        have hmm : k * h.offers.length ≤ 6 * 12 := Nat.mul_le_mul (by omega) hol
        replace hq := And.intro hq (hkl)
        refine tr_skip ?_
        (try simp only [thenE, inBlkE])
        refine hK9 _ ?_
        refine tr_seq fun K10 hK10 => ?_
        refine tr_block ?_
        refine tr_seq fun K11 hK11 => ?_
        refine tr_region [1, 2, 6, 7, 8, 17, 18, 19] rfl rfl fun K hK => ?_
        iterate 6 refine evR_p ?_
        refine evR_e hK ?_; clear hK K
        refine hK11 _ ?_
        refine tr_seq fun K12 hK12 => ?_
        refine tr_region [1, 2, 6, 7, 9, 17, 18, 19] rfl rfl fun K hK => ?_
        iterate 3 refine evR_p ?_
        refine evR_e hK ?_; clear hK K
        refine hK12 _ ?_
        refine tr_seq fun K13 hK13 => ?_
        refine tr_region [1, 2, 6, 7, 9, 17, 18, 19, 27, 28, 29] rfl rfl fun K hK => ?_
        iterate 4 refine evR_p ?_
        refine evR_e hK ?_; clear hK K
        refine hK13 _ ?_
        refine tr_block ?_
        -- loop 2: live [1, 2, 6, 7, 9, 17, 18, 19, 27, 28, 29]
        refine tr_loopW (fun m σ => ∃ i : Nat, i + m = h.offers.length ∧ σ = ⟨[(1, .int .i64 s), (2, .ptr 0 0), (6, .own 1), (7, .int .i64 (k : Nat)), (9, .int .i64 (plcT h s k (h.rooms.getD k sp0).fr i).1), (17, .sl 2 (encSps h.rooms)), (18, .int .i64 h.rooms.length), (19, .int .i64 (k : Nat)), (27, .sl 4 (encOfs h.offers)), (28, .int .i64 h.offers.length), (29, .int .i64 (i : Nat))], [(1, .row 70 3 (encT (plcW h s k ++ (plcT h s k (h.rooms.getD k sp0).fr i).2))), (0, .cells (encHr h))], 2⟩) (h.offers.length) ?_ ?_
        · exact ⟨_, Wk.cut 2 rfl, 0, by omega, by rw [show (plcT h s k (h.rooms.getD k sp0).fr 0).2 = [] from rfl, List.append_nil]; rfl⟩
        · rintro m2 σ ⟨i, hi, rfl⟩ KL2 hKL2
          refine tr_seq fun K14 hK14 => ?_
          refine tr_region [1, 2, 6, 7, 9, 17, 18, 19, 27, 28, 29, 30] rfl rfl fun K hK => ?_
          refine evR_p ?_
          refine evR_e hK ?_; clear hK K
          refine hK14 _ ?_
          refine tr_seq fun K15 hK15 => ?_
          refine tr_condB (fun ht3 => ?_) (fun ht3 => ?_)
          · skip
            (first | (have hkv : plcV h s = [.nsl, .int .i64 250] := (by unfold plcV; rw [ht1]; rfl)) | (have hk : keepsH h s = true := ht1; have hvl := keeps_valid hk; have hV := validH_all hvl; have hol := hV.ol; have hrl := hV.rl) | skip)
            have hil : i < h.offers.length := by omega
            have hpt := plcT_len h s k (h.rooms.getD k sp0).fr i
            replace hq := And.intro hq (hil)
            refine tr_skip ?_
            (try simp only [thenE, inBlkE])
            refine hK15 _ ?_
            refine tr_seq fun K16 hK16 => ?_
            refine tr_block ?_
            refine tr_seq fun K17 hK17 => ?_
            refine tr_region [1, 2, 6, 7, 9, 10, 11, 17, 18, 19, 27, 28, 29] rfl rfl fun K hK => ?_
            iterate 6 refine evR_p ?_
            refine evR_e hK ?_; clear hK K
            refine hK17 _ ?_
            refine tr_seq fun K18 hK18 => ?_
            refine tr_region [1, 2, 6, 7, 9, 11, 17, 18, 19, 27, 28, 29, 44] rfl rfl fun K hK => ?_
            iterate 5 refine evR_p ?_
            iterate 5 refine evR_g ?_
            refine evR_p ?_
            refine evR_e hK ?_; clear hK K
            refine hK18 _ ?_
            refine tr_condB (fun ht4 => ?_) (fun ht4 => ?_)
            · skip
              (first | (have hkv : plcV h s = [.nsl, .int .i64 250] := (by unfold plcV; rw [ht1]; rfl)) | (have hk : keepsH h s = true := ht1; have hvl := keeps_valid hk; have hV := validH_all hvl; have hol := hV.ol; have hrl := hV.rl) | skip)
              refine tr_seq fun K19 hK19 => ?_
              refine tr_region [1, 2, 6, 7, 9, 11, 17, 18, 19, 27, 28, 29] rfl rfl fun K hK => ?_
              iterate 10 refine evR_p ?_
              refine evR_bs ?_
              iterate 2 refine evR_p ?_
              refine evR_e hK ?_; clear hK K
              refine hK19 _ ?_
              refine tr_region [1, 2, 6, 7, 9, 17, 18, 19, 27, 28, 29] rfl rfl fun K hK => ?_
              iterate 5 refine evR_p ?_
              refine evR_e hK ?_; clear hK K
              refine hK16 _ ?_
              refine tr_region [1, 2, 6, 7, 9, 17, 18, 19, 27, 28, 29] rfl rfl fun K hK => ?_
              iterate 2 refine evR_p ?_
              refine evR_e hK ?_; clear hK K
              refine hKL2 _ ?_
              first | exact ⟨m2 - 1, _, by omega, (Wk.trans (Wk.ren 3 1 (Nat.le_of_ble_eq_true rfl) (Nat.le_of_ble_eq_true rfl) rfl) (Wk.cut 2 rfl)), i + 1, by omega, by rw [w64 (x := (i : Int) + 1) (by omega), plcT_t ht4.1 (show tkn s i = true from decide_eq_true ht4.2), ← List.append_assoc, encT_snoc]; rfl⟩ | exact ⟨m2 - 1, _, by omega, Wk.cut 2 rfl, i + 1, by omega, by rw [w64 (x := (i : Int) + 1) (by omega), plcT_f (plc_no ht4)]; rfl⟩
            · skip
              (first | (have hkv : plcV h s = [.nsl, .int .i64 250] := (by unfold plcV; rw [ht1]; rfl)) | (have hk : keepsH h s = true := ht1; have hvl := keeps_valid hk; have hV := validH_all hvl; have hol := hV.ol; have hrl := hV.rl) | skip)
              refine tr_skip ?_
              (try simp only [thenE, inBlkE])
              refine hK16 _ ?_
              refine tr_region [1, 2, 6, 7, 9, 17, 18, 19, 27, 28, 29] rfl rfl fun K hK => ?_
              iterate 2 refine evR_p ?_
              refine evR_e hK ?_; clear hK K
              refine hKL2 _ ?_
              first | exact ⟨m2 - 1, _, by omega, (Wk.trans (Wk.ren 3 1 (Nat.le_of_ble_eq_true rfl) (Nat.le_of_ble_eq_true rfl) rfl) (Wk.cut 2 rfl)), i + 1, by omega, by rw [w64 (x := (i : Int) + 1) (by omega), plcT_t ht4.1 (show tkn s i = true from decide_eq_true ht4.2), ← List.append_assoc, encT_snoc]; rfl⟩ | exact ⟨m2 - 1, _, by omega, Wk.cut 2 rfl, i + 1, by omega, by rw [w64 (x := (i : Int) + 1) (by omega), plcT_f (plc_no ht4)]; rfl⟩
          · skip
            (first | (have hkv : plcV h s = [.nsl, .int .i64 250] := (by unfold plcV; rw [ht1]; rfl)) | (have hk : keepsH h s = true := ht1; have hvl := keeps_valid hk; have hV := validH_all hvl; have hol := hV.ol; have hrl := hV.rl) | skip)
            have hil : i = h.offers.length := by omega
            subst hil
            refine tr_exit ?_
            simp only [thenE, inBlkE, Nat.reduceEqDiff, ↓reduceIte]
            refine hK10 _ ?_
            refine tr_region [1, 2, 6, 17, 18, 19] rfl rfl fun K hK => ?_
            iterate 2 refine evR_p ?_
            refine evR_e hK ?_; clear hK K
            refine hKL1 _ ?_
            exact ⟨m - 1, _, by omega, Wk.cut 2 rfl, k + 1, by omega, by rw [w64 (x := (k : Int) + 1) (by omega)]; rfl⟩
      · skip
        (first | (have hkv : plcV h s = [.nsl, .int .i64 250] := (by unfold plcV; rw [ht1]; rfl)) | (have hk : keepsH h s = true := ht1; have hvl := keeps_valid hk; have hV := validH_all hvl; have hol := hV.ol; have hrl := hV.rl) | skip)
        have hkl : k = h.rooms.length := by omega
        subst hkl
        refine tr_exit ?_
        simp only [thenE, inBlkE, Nat.reduceEqDiff, ↓reduceIte]
        refine hK6 _ ?_
        refine tr_seq fun K20 hK20 => ?_
        refine tr_region [4, 5] rfl rfl fun K hK => ?_
        iterate 3 refine evR_p ?_
        refine evR_e hK ?_; clear hK K
        refine hK20 _ ?_
        refine tr_ret ?_
        (try simp only [thenE, inBlkE])
        simp (maxSteps := 4000000) (disch := first | assumption | omega | (simp only [go_sem, *]; done) | (simp only [go_sem, *]; omega)) only [postA, postO, resV1, fzAll, go_sem, hq, Int.reduceToNat, Nat.reduceBEq, Nat.reduceEqDiff, Nat.reduceAdd, Nat.reduceMul, Nat.reduceLeDiff, Nat.reduceLT, Nat.reduceSub, ↓reduceIte, reduceCtorEq]
        all_goals (first | (rw [hkv]; done) | (rw [plcV, hk]; rfl))
end

end Go.Proofs.YtaaongcfeldcoaaDoor


namespace Go.Proofs.YtaaongcfeldcoaaDoor
open Go.RowKit
set_option linter.unusedVariables false
set_option linter.unusedSimpArgs false
set_option maxRecDepth 100000
attribute [local go_sem] Nat.zero_add Nat.add_zero Nat.mul_one eq_self ne_eq not_true_eq_false not_false_eq_true decide_true decide_false decide_not Bool.false_eq_true List.filter_cons List.filter_nil true_and and_true beq_false beq_true Bool.not_true Bool.not_false Bool.and_true Bool.true_and Option.getD_some Option.getD_none imp_self implies_true Int.toNat_natCast List.cons_append List.nil_append List.map_cons List.map_nil List.length_cons List.length_nil List.getD_cons_zero List.getD_cons_succ List.drop_zero List.drop_succ_cons List.take_succ_cons List.take_zero
attribute [local go_sem] lowN lowQ lowM isAl appOwn unw appF isE isO stpO notIn St.bare evO evDO isEff stp St.get St.slot St.put List.lookup un unL ofVal gof nth pickV pkB_false pkB_true binV unV loadV idxV fldV partV buildV fillV lenV sliV appV appR rowsV winV V.parts V.okp V.sc Mem.look_cons Mem.look_nil V.cl V.clL AObj.clo fzAll exps St.fz Mem.fz V.fz V.fzL AObj.fz Option.isSome_some Option.isSome_none Bool.or_true Bool.true_or Bool.or_false Bool.false_or false_and and_false false_or or_false arT_112 arT_22 arT_23 arT_27 arT_28 arT_29 arT_33 arT_52 arT_57 arT_65 arT_76 arT_77 arT_84 arT_88 arT_9 arT_95 boolT_133 boolT_29 boolT_3 boolT_36 boolT_4 boolT_70 boolT_92 flatT_133 flatT_29 flatT_3 flatT_36 flatT_4 flatT_70 flatT_92 intT_121 intT_142 intT_144 intT_145 intT_3 intT_5 lay_110 lay_145 lay_22 lay_23 lay_25 lay_27 lay_28 lay_29 lay_3 lay_31 lay_33 lay_35 lay_4 lay_42 lay_51 lay_56 lay_57 lay_59 lay_70 lay_73 lay_77 lay_79 lay_81 lay_83 lay_84 lay_85 lay_88 lay_92 lay_94 lay_95 okF_10 okF_100 okF_101 okF_102 okF_103 okF_104 okF_105 okF_11 okF_12 okF_122 okF_123 okF_124 okF_125 okF_126 okF_127 okF_13 okF_14 okF_15 okF_16 okF_17 okF_18 okF_19 okF_20 okF_21 okF_22 okF_23 okF_24 okF_25 okF_26 okF_27 okF_28 okF_29 okF_3 okF_30 okF_31 okF_32 okF_33 okF_34 okF_35 okF_36 okF_37 okF_38 okF_39 okF_4 okF_40 okF_41 okF_42 okF_43 okF_44 okF_45 okF_46 okF_47 okF_48 okF_49 okF_5 okF_50 okF_51 okF_52 okF_53 okF_54 okF_55 okF_56 okF_57 okF_58 okF_59 okF_6 okF_60 okF_61 okF_62 okF_63 okF_64 okF_65 okF_66 okF_67 okF_68 okF_69 okF_7 okF_70 okF_71 okF_72 okF_73 okF_74 okF_75 okF_76 okF_77 okF_78 okF_79 okF_8 okF_80 okF_81 okF_82 okF_83 okF_84 okF_85 okF_86 okF_87 okF_88 okF_89 okF_9 okF_90 okF_91 okF_92 okF_93 okF_94 okF_95 okF_96 okF_97 okF_98 okF_99 plT_31 plT_35 plT_51 plT_56 plT_59 plT_70 plT_73 plT_90 plT_92 plT_95 slT_112 slT_22 slT_23 slT_27 slT_28 slT_29 slT_33 slT_52 slT_57 slT_65 slT_76 slT_77 slT_88 slT_95 stT_25_0 stT_25_1 stT_25_2 stT_25_3 stT_25_4 stT_31_0 stT_31_1 stT_31_2 stT_31_3 stT_35_0 stT_35_1 stT_35_2 stT_35_3 stT_51_0 stT_51_1 stT_56_0 stT_56_1 stT_56_2 stT_56_3 stT_59_0 stT_59_1 stT_59_2 stT_73_0 stT_73_3 stT_73_4 stT_73_5 stT_79_0 stT_79_1 stT_79_2 stT_83_0 stT_90_0 stT_90_1 stT_90_2 stT_90_3 strT_76 strT_77 strT_84 strT_9 zeroT_112 zeroT_145 zeroT_3 zeroT_31 zeroT_33 zeroT_35 zeroT_42 zeroT_51 zeroT_56 zeroT_57 zeroT_59 zeroT_70 zeroT_73 zeroT_79 zeroT_83 zeroT_90 zeroT_92 zeroT_95
attribute [local go_sem] List.getElem?_cons_zero List.getElem?_cons_succ List.zip_cons_cons List.zip_nil_left List.zip_nil_right Bool.false_and Bool.and_false List.length_append List.length_set List.length_replicate List.all_cons List.all_nil encI_length encI_getD encR_length encR_getD encRw encPg spl shp AObj.shp rowM isSt isRpS isRd csh AObj.csh forall_const imp_self
attribute [local go_sem] encHr encOf encSp encP2 encSps_length encOfs_length encP2s_length encSps_getD encOfs_getD encP2s_getD
attribute [local simp] encI_length encR_length cellsI_length encSps_length encOfs_length encP2s_length
theorem k23 (must : List Int) : CallsA Tryd.prog 23 [.sl 1 (encI must)] (.agg (encHr (exH must))) := by
  have hq : True := trivial
  refine callsA_of_tr Tryd.func23 rfl (Nat.le_of_ble_eq_true rfl) ?_
  simp only [Tryd.results23, envOf, Nat.reduceAdd]
  refine tr_seq fun K1 hK1 => ?_
  refine tr_region [0, 2] rfl rfl fun K hK => ?_
  refine evR_p ?_
  refine evR_e hK ?_; clear hK K
  refine hK1 _ ?_
  refine tr_seq fun K2 hK2 => ?_
  refine tr_region [2] rfl rfl fun K hK => ?_
  iterate 2 refine evR_p ?_
  refine evR_bs ?_
  iterate 4 refine evR_p ?_
  refine evR_bs ?_
  refine evR_p ?_
  refine evR_bs ?_
  iterate 3 refine evR_p ?_
  refine evR_e hK ?_; clear hK K
  refine hK2 _ ?_
  refine tr_ret ?_
  (try simp only [thenE, inBlkE])
  simp (maxSteps := 4000000) (disch := first | assumption | omega | (simp only [go_sem, *]; done) | (simp only [go_sem, *]; omega)) only [postA, postO, resV1, fzAll, go_sem, hq, Int.reduceToNat, Nat.reduceBEq, Nat.reduceEqDiff, Nat.reduceAdd, Nat.reduceMul, Nat.reduceLeDiff, Nat.reduceLT, Nat.reduceSub, ↓reduceIte, reduceCtorEq]
  all_goals (rfl)

section
attribute [local go_sem] encSol encR_length encR_getD encT encS_length
set_option maxHeartbeats 8000000 in
theorem k8  : CallsA Tryd.prog 8 [] (.bool true) := by
  obtain ⟨x1, x2, x3⟩ := ex_best0
  obtain ⟨y1, y2, y3⟩ := ex_best1
  obtain ⟨z1, z2, z3, z4⟩ := ex_keep
  obtain ⟨r1, r2, r3, r4⟩ := ex_rows
  have pp := proof_pos (withH (exH [0, 2]) 1)
  have hq := And.intro x1 (And.intro x2 (And.intro x3 (And.intro y1 (And.intro y2 (And.intro y3 (And.intro z1 (And.intro z2 (And.intro z3 (And.intro z4 (And.intro r1 (And.intro r2 (And.intro r3 (And.intro r4 (And.intro pp (And.intro ev0 (And.intro ex_p12 (And.intro ex_p10 (And.intro ex_kv (And.intro ex_r1 (ex_r2))))))))))))))))))))
  refine callsA_of_tr Tryd.func8 rfl (Nat.le_of_ble_eq_true rfl) ?_
  simp only [Tryd.results8, envOf, Nat.reduceAdd]
  refine tr_seq fun K1 hK1 => ?_
  refine tr_region [] rfl rfl fun K hK => ?_
  refine evR_p ?_
  refine evR_e hK ?_; clear hK K
  refine hK1 _ ?_
  refine tr_seq fun K2 hK2 => ?_
  refine tr_region [1] rfl rfl fun K hK => ?_
  refine evR_c (hc := ((k23 []).arg (.cons (.nsl 1) .nil))) (k := ?_)
  iterate 2 refine evR_p ?_
  refine evR_e hK ?_; clear hK K
  refine hK2 _ ?_
  refine tr_seq fun K3 hK3 => ?_
  refine tr_region [1, 2, 3] rfl rfl fun K hK => ?_
  refine evR_p ?_
  refine evR_c (hc := (k10 (exH []) ev0)) (k := ?_)
  iterate 6 refine evR_p ?_
  refine evR_e hK ?_; clear hK K
  refine hK3 _ ?_
  refine tr_seq fun K4 hK4 => ?_
  refine tr_region [1, 2, 3, 4, 5] rfl rfl fun K hK => ?_
  refine evR_p ?_
  refine evR_c (hc := (ex_p12 ▸ k24 (exH []) (ex_len [] (by simp [maxLen])).1 (ex_len [] (by simp [maxLen])).2.1 (ex_len [] (by simp [maxLen])).2.2.1 (ex_len [] (by simp [maxLen])).2.2.2 12)) (k := ?_)
  iterate 5 refine evR_p ?_
  refine evR_e hK ?_; clear hK K
  refine hK4 _ ?_
  refine tr_seq fun K5 hK5 => ?_
  refine tr_region [1, 2, 3, 4, 5, 6, 7] rfl rfl fun K hK => ?_
  refine evR_bs ?_
  refine evR_c (hc := (k23 [0])) (k := ?_)
  refine evR_c (hc := (k10 (exH [0]) ev1)) (k := ?_)
  iterate 6 refine evR_p ?_
  refine evR_e hK ?_; clear hK K
  refine hK5 _ ?_
  refine tr_seq fun K6 hK6 => ?_
  refine tr_region [1, 2, 3, 4, 5, 6, 7, 9, 10] rfl rfl fun K hK => ?_
  refine evR_bs ?_
  refine evR_c (hc := (k23 [0])) (k := ?_)
  refine evR_c (hc := (ex_r1 ▸ k15 (exH [0]) (ex_len [0] (by simp [maxLen])).1 (ex_len [0] (by simp [maxLen])).2.1 (ex_len [0] (by simp [maxLen])).2.2.1 (ex_len [0] (by simp [maxLen])).2.2.2 1)) (k := ?_)
  iterate 7 refine evR_p ?_
  refine evR_e hK ?_; clear hK K
  refine hK6 _ ?_
  refine tr_seq fun K7 hK7 => ?_
  refine tr_region [1, 2, 3, 4, 5, 6, 7, 9, 10, 11, 12, 13] rfl rfl fun K hK => ?_
  refine evR_bs ?_
  refine evR_c (hc := (k23 [0, 2])) (k := ?_)
  refine evR_c (hc := (ex_r2 ▸ k15 (exH [0, 2]) (ex_len [0, 2] (by simp [maxLen])).1 (ex_len [0, 2] (by simp [maxLen])).2.1 (ex_len [0, 2] (by simp [maxLen])).2.2.1 (ex_len [0, 2] (by simp [maxLen])).2.2.2 1)) (k := ?_)
  iterate 7 refine evR_p ?_
  refine evR_e hK ?_; clear hK K
  refine hK7 _ ?_
  refine tr_seq fun K8 hK8 => ?_
  refine tr_region [1, 2, 3, 4, 5, 6, 7, 9, 10, 11, 12, 13, 14, 15] rfl rfl fun K hK => ?_
  refine evR_p ?_
  refine evR_c (hc := (ex_kv ▸ k17 (exH []) (ex_len [] (by simp [maxLen])).1 (ex_len [] (by simp [maxLen])).2.1 (ex_len [] (by simp [maxLen])).2.2.1 (ex_len [] (by simp [maxLen])).2.2.2 12)) (k := ?_)
  iterate 5 refine evR_p ?_
  refine evR_e hK ?_; clear hK K
  refine hK8 _ ?_
  refine tr_seq fun K9 hK9 => ?_
  refine tr_region [1, 2, 3, 4, 5, 6, 7, 9, 10, 11, 12, 13, 14, 15, 16, 17] rfl rfl fun K hK => ?_
  refine evR_p ?_
  refine evR_c (hc := (k20 (exH []) ev0)) (k := ?_)
  iterate 6 refine evR_p ?_
  refine evR_e hK ?_; clear hK K
  refine hK9 _ ?_
  refine tr_seq fun K10 hK10 => ?_
  refine tr_region [1, 2, 3, 4, 5, 6, 7, 9, 10, 11, 12, 13, 14, 15, 16, 17, 19] rfl rfl fun K hK => ?_
  refine evR_p ?_
  refine evR_c (hc := (ex_p10 ▸ k24 (exH []) (ex_len [] (by simp [maxLen])).1 (ex_len [] (by simp [maxLen])).2.1 (ex_len [] (by simp [maxLen])).2.2.1 (ex_len [] (by simp [maxLen])).2.2.2 10)) (k := ?_)
  iterate 5 refine evR_p ?_
  refine evR_e hK ?_; clear hK K
  refine hK10 _ ?_
  refine tr_seq fun K11 hK11 => ?_
  refine tr_seq fun K12 hK12 => ?_
  refine tr_region [1, 2, 4, 6, 9, 11, 12, 14, 16, 108] rfl rfl fun K hK => ?_
  iterate 3 refine evR_p ?_
  iterate 2 refine evR_g ?_
  iterate 2 refine evR_p ?_
  iterate 2 refine evR_g ?_
  iterate 2 refine evR_p ?_
  iterate 2 refine evR_g ?_
  iterate 2 refine evR_p ?_
  iterate 2 refine evR_g ?_
  iterate 2 refine evR_p ?_
  iterate 2 refine evR_g ?_
  iterate 2 refine evR_p ?_
  iterate 2 refine evR_g ?_
  iterate 2 refine evR_p ?_
  iterate 2 refine evR_g ?_
  iterate 2 refine evR_p ?_
  iterate 4 refine evR_g ?_
  iterate 2 refine evR_p ?_
  iterate 3 refine evR_g ?_
  refine evR_p ?_
  refine evR_e hK ?_; clear hK K
  refine hK12 _ ?_
  refine tr_condB (fun ht1 => ?_) (fun ht1 => ?_)
  · skip
    (first | (exfalso; omega) | (exfalso; simp_all; done) | skip)
    all_goals
      refine tr_seq fun K13 hK13 => ?_
      refine tr_region [0] rfl rfl fun K hK => ?_
      refine evR_p ?_
      refine evR_e hK ?_; clear hK K
      refine hK13 _ ?_
      refine tr_ret ?_
      (try simp only [thenE, inBlkE])
      simp (maxSteps := 4000000) (disch := first | assumption | omega | (simp only [go_sem, *]; done) | (simp only [go_sem, *]; omega)) only [postA, postO, resV1, fzAll, go_sem, hq, Int.reduceToNat, Nat.reduceBEq, Nat.reduceEqDiff, Nat.reduceAdd, Nat.reduceMul, Nat.reduceLeDiff, Nat.reduceLT, Nat.reduceSub, ↓reduceIte, reduceCtorEq]
      all_goals ((first | (simp [z1, z2, z3, z4]; done) | (simp [z1, z2, z3, z4]; exact proof_pos _)))
  · skip
    (first | (exfalso; omega) | (exfalso; simp_all; done) | skip)
    all_goals
      refine tr_skip ?_
      (try simp only [thenE, inBlkE])
      refine hK11 _ ?_
      refine tr_seq fun K14 hK14 => ?_
      refine tr_region [1, 4, 14, 16, 20] rfl rfl fun K hK => ?_
      iterate 3 refine evR_p ?_
      iterate 3 refine evR_g ?_
      iterate 2 refine evR_p ?_
      iterate 3 refine evR_g ?_
      iterate 2 refine evR_p ?_
      iterate 2 refine evR_g ?_
      iterate 2 refine evR_p ?_
      iterate 3 refine evR_g ?_
      iterate 2 refine evR_p ?_
      iterate 3 refine evR_g ?_
      iterate 2 refine evR_p ?_
      iterate 2 refine evR_g ?_
      iterate 2 refine evR_p ?_
      refine evR_g ?_
      iterate 2 refine evR_p ?_
      iterate 3 refine evR_g ?_
      iterate 2 refine evR_p ?_
      refine evR_e hK ?_; clear hK K
      refine hK14 _ ?_
      refine tr_seq fun K15 hK15 => ?_
      refine tr_region [1, 16, 20, 21] rfl rfl fun K hK => ?_
      iterate 3 refine evR_p ?_
      refine evR_bs ?_
      refine evR_c (hc := (k25 [⟨100, 130, 2⟩, ⟨200, 245, 3⟩] [⟨100, 130, 2⟩, ⟨200, 245, 3⟩] (by simp [maxLen]) (by simp [maxLen]))) (k := ?_)
      refine evR_p ?_
      iterate 2 refine evR_g ?_
      refine evR_gc (hc := (k26 [1, 2] [1, 2] (by simp [maxLen]) (by simp [maxLen]))) (k := ?_)
      iterate 2 refine evR_p ?_
      refine evR_e hK ?_; clear hK K
      refine hK15 _ ?_
      refine tr_seq fun K16 hK16 => ?_
      refine tr_region [0] rfl rfl fun K hK => ?_
      iterate 2 refine evR_p ?_
      refine evR_g ?_
      iterate 2 refine evR_p ?_
      refine evR_g ?_
      refine evR_gc (hc := (k19 (exH []) (ex_len [] (by simp [maxLen])).1 (ex_len [] (by simp [maxLen])).2.1 (ex_len [] (by simp [maxLen])).2.2.1 (ex_len [] (by simp [maxLen])).2.2.2)) (k := ?_)
      iterate 2 refine evR_p ?_
      refine evR_g ?_
      refine evR_gc (hc := (k12 (exH []) (ex_len [] (by simp [maxLen])).1 (ex_len [] (by simp [maxLen])).2.1 (ex_len [] (by simp [maxLen])).2.2.1 (ex_len [] (by simp [maxLen])).2.2.2 12)) (k := ?_)
      iterate 2 refine evR_p ?_
      refine evR_g ?_
      refine evR_gc (hc := (k12 (exH []) (ex_len [] (by simp [maxLen])).1 (ex_len [] (by simp [maxLen])).2.1 (ex_len [] (by simp [maxLen])).2.2.1 (ex_len [] (by simp [maxLen])).2.2.2 10)) (k := ?_)
      refine evR_g ?_
      iterate 2 refine evR_p ?_
      refine evR_g ?_
      refine evR_gc (hc := (k12 (exH []) (ex_len [] (by simp [maxLen])).1 (ex_len [] (by simp [maxLen])).2.1 (ex_len [] (by simp [maxLen])).2.2.1 (ex_len [] (by simp [maxLen])).2.2.2 3)) (k := ?_)
      refine evR_g ?_
      iterate 2 refine evR_p ?_
      refine evR_g ?_
      refine evR_gc (hc := (k12 (exH []) (ex_len [] (by simp [maxLen])).1 (ex_len [] (by simp [maxLen])).2.1 (ex_len [] (by simp [maxLen])).2.2.1 (ex_len [] (by simp [maxLen])).2.2.2 16)) (k := ?_)
      refine evR_g ?_
      iterate 2 refine evR_p ?_
      iterate 6 refine evR_g ?_
      iterate 2 refine evR_p ?_
      iterate 6 refine evR_g ?_
      iterate 2 refine evR_p ?_
      refine evR_e hK ?_; clear hK K
      refine hK16 _ ?_
      refine tr_ret ?_
      (try simp only [thenE, inBlkE])
      simp (maxSteps := 4000000) (disch := first | assumption | omega | (simp only [go_sem, *]; done) | (simp only [go_sem, *]; omega)) only [postA, postO, resV1, fzAll, go_sem, hq, Int.reduceToNat, Nat.reduceBEq, Nat.reduceEqDiff, Nat.reduceAdd, Nat.reduceMul, Nat.reduceLeDiff, Nat.reduceLT, Nat.reduceSub, ↓reduceIte, reduceCtorEq]
      all_goals ((first | (simp [z1, z2, z3, z4]; done) | (simp [z1, z2, z3, z4]; exact proof_pos _)))
end

end Go.Proofs.YtaaongcfeldcoaaDoor


namespace Go.Proofs.YtaaongcfeldcoaaDoor
open Go.RowKit
set_option linter.unusedVariables false
set_option linter.unusedSimpArgs false
set_option maxRecDepth 100000
attribute [local go_sem] Nat.zero_add Nat.add_zero Nat.mul_one eq_self ne_eq not_true_eq_false not_false_eq_true decide_true decide_false decide_not Bool.false_eq_true List.filter_cons List.filter_nil true_and and_true beq_false beq_true Bool.not_true Bool.not_false Bool.and_true Bool.true_and Option.getD_some Option.getD_none imp_self implies_true Int.toNat_natCast List.cons_append List.nil_append List.map_cons List.map_nil List.length_cons List.length_nil List.getD_cons_zero List.getD_cons_succ List.drop_zero List.drop_succ_cons List.take_succ_cons List.take_zero
attribute [local go_sem] lowN lowQ lowM isAl appOwn unw appF isE isO stpO notIn St.bare evO evDO isEff stp St.get St.slot St.put List.lookup un unL ofVal gof nth pickV pkB_false pkB_true binV unV loadV idxV fldV partV buildV fillV lenV sliV appV appR rowsV winV V.parts V.okp V.sc Mem.look_cons Mem.look_nil V.cl V.clL AObj.clo fzAll exps St.fz Mem.fz V.fz V.fzL AObj.fz Option.isSome_some Option.isSome_none Bool.or_true Bool.true_or Bool.or_false Bool.false_or false_and and_false false_or or_false arT_112 arT_22 arT_23 arT_27 arT_28 arT_29 arT_33 arT_52 arT_57 arT_65 arT_76 arT_77 arT_84 arT_88 arT_9 arT_95 boolT_133 boolT_29 boolT_3 boolT_36 boolT_4 boolT_70 boolT_92 flatT_133 flatT_29 flatT_3 flatT_36 flatT_4 flatT_70 flatT_92 intT_121 intT_142 intT_144 intT_145 intT_3 intT_5 lay_110 lay_145 lay_22 lay_23 lay_25 lay_27 lay_28 lay_29 lay_3 lay_31 lay_33 lay_35 lay_4 lay_42 lay_51 lay_56 lay_57 lay_59 lay_70 lay_73 lay_77 lay_79 lay_81 lay_83 lay_84 lay_85 lay_88 lay_92 lay_94 lay_95 okF_10 okF_100 okF_101 okF_102 okF_103 okF_104 okF_105 okF_11 okF_12 okF_122 okF_123 okF_124 okF_125 okF_126 okF_127 okF_13 okF_14 okF_15 okF_16 okF_17 okF_18 okF_19 okF_20 okF_21 okF_22 okF_23 okF_24 okF_25 okF_26 okF_27 okF_28 okF_29 okF_3 okF_30 okF_31 okF_32 okF_33 okF_34 okF_35 okF_36 okF_37 okF_38 okF_39 okF_4 okF_40 okF_41 okF_42 okF_43 okF_44 okF_45 okF_46 okF_47 okF_48 okF_49 okF_5 okF_50 okF_51 okF_52 okF_53 okF_54 okF_55 okF_56 okF_57 okF_58 okF_59 okF_6 okF_60 okF_61 okF_62 okF_63 okF_64 okF_65 okF_66 okF_67 okF_68 okF_69 okF_7 okF_70 okF_71 okF_72 okF_73 okF_74 okF_75 okF_76 okF_77 okF_78 okF_79 okF_8 okF_80 okF_81 okF_82 okF_83 okF_84 okF_85 okF_86 okF_87 okF_88 okF_89 okF_9 okF_90 okF_91 okF_92 okF_93 okF_94 okF_95 okF_96 okF_97 okF_98 okF_99 plT_31 plT_35 plT_51 plT_56 plT_59 plT_70 plT_73 plT_90 plT_92 plT_95 slT_112 slT_22 slT_23 slT_27 slT_28 slT_29 slT_33 slT_52 slT_57 slT_65 slT_76 slT_77 slT_88 slT_95 stT_25_0 stT_25_1 stT_25_2 stT_25_3 stT_25_4 stT_31_0 stT_31_1 stT_31_2 stT_31_3 stT_35_0 stT_35_1 stT_35_2 stT_35_3 stT_51_0 stT_51_1 stT_56_0 stT_56_1 stT_56_2 stT_56_3 stT_59_0 stT_59_1 stT_59_2 stT_73_0 stT_73_3 stT_73_4 stT_73_5 stT_79_0 stT_79_1 stT_79_2 stT_83_0 stT_90_0 stT_90_1 stT_90_2 stT_90_3 strT_76 strT_77 strT_84 strT_9 zeroT_112 zeroT_145 zeroT_3 zeroT_31 zeroT_33 zeroT_35 zeroT_42 zeroT_51 zeroT_56 zeroT_57 zeroT_59 zeroT_70 zeroT_73 zeroT_79 zeroT_83 zeroT_90 zeroT_92 zeroT_95
attribute [local go_sem] List.getElem?_cons_zero List.getElem?_cons_succ List.zip_cons_cons List.zip_nil_left List.zip_nil_right Bool.false_and Bool.and_false List.length_append List.length_set List.length_replicate List.all_cons List.all_nil encI_length encI_getD encR_length encR_getD encRw encPg spl shp AObj.shp rowM isSt isRpS isRd csh AObj.csh forall_const imp_self
attribute [local go_sem] encHr encOf encSp encP2 encSps_length encOfs_length encP2s_length encSps_getD encOfs_getD encP2s_getD
attribute [local simp] encI_length encR_length cellsI_length encSps_length encOfs_length encP2s_length
theorem k9 (fr : Int) (rs : List P2) (os : List Of) (ap mu : Int) (hrl : rs.length ≤ maxLen) (hol : os.length ≤ maxLen) (hrk : ∀ p ∈ rs, okP2 p) (hf : okI fr) : CallsA Tryd.prog 9 [.agg [.int .i64 fr, .sl 2 (encP2s rs), .sl 4 (encOfs os), .int .i64 ap, .int .i64 mu]] (.agg (encHr (madeH fr rs os ap mu))) := by
  have hq : True := trivial
  refine callsA_of_tr Tryd.func9 rfl (Nat.le_of_ble_eq_true rfl) ?_
  simp only [Tryd.results9, envOf, Nat.reduceAdd]
  refine tr_seq fun K1 hK1 => ?_
  refine tr_region [1, 2] rfl rfl fun K hK => ?_
  iterate 2 refine evR_p ?_
  refine evR_e hK ?_; clear hK K
  refine hK1 _ ?_
  refine tr_seq fun K2 hK2 => ?_
  refine tr_region [2] rfl rfl fun K hK => ?_
  iterate 10 refine evR_p ?_
  refine evR_c (hc := (k27 fr rs os ap mu hrl hol hrk hf)) (k := ?_)
  refine evR_p ?_
  refine evR_e hK ?_; clear hK K
  refine hK2 _ ?_
  refine tr_ret ?_
  (try simp only [thenE, inBlkE])
  simp (maxSteps := 4000000) (disch := first | assumption | omega | (simp only [go_sem, *]; done) | (simp only [go_sem, *]; omega)) only [postA, postO, resV1, fzAll, go_sem, hq, Int.reduceToNat, Nat.reduceBEq, Nat.reduceEqDiff, Nat.reduceAdd, Nat.reduceMul, Nat.reduceLeDiff, Nat.reduceLT, Nat.reduceSub, ↓reduceIte, reduceCtorEq]
  all_goals (rfl)

set_option maxHeartbeats 4000000 in
theorem k7 (fr : Int) (rs : List P2) (os : List Of) (ap mu : Int) (hrl : rs.length ≤ maxLen) (hol : os.length ≤ maxLen) (hrk : ∀ p ∈ rs, okP2 p) (hok : ∀ o ∈ os, okO o) (hf : okI fr) (s : Int) (hs : okI s) : CallsA Tryd.prog 7 [.agg [.int .i64 fr, .sl 2 (encP2s rs), .sl 4 (encOfs os), .int .i64 ap, .int .i64 mu], .int .i64 s] (.bool true) := by
  have hk9 := k9 fr rs os ap mu hrl hol hrk hf
  have hv := made_validH (ap := ap) (mu := mu) hf hrk hok
  generalize madeH fr rs os ap mu = M at hk9 hv
  have hV := validH_all hv
  have hr : M.rooms.length ≤ maxLen := by have := hV.rl; unfold maxLen; omega
  have ho : M.offers.length ≤ maxLen := by have := hV.ol; unfold maxLen; omega
  have ha : M.apart.length ≤ maxLen := by have := hV.al; unfold maxLen; omega
  have hm : M.must.length ≤ maxLen := by have := hV.ml; unfold maxLen; omega
  have holM := hV.ol
  have hrlM := hV.rl
  have hpv := progH_valid hV
  have kr := keeps_rows hv (choW M s)
  have hq := And.intro hv (And.intro hpv (kr))
  refine callsA_of_tr Tryd.func7 rfl (Nat.le_of_ble_eq_true rfl) ?_
  simp only [Tryd.results7, envOf, Nat.reduceAdd]
  refine tr_seq fun K1 hK1 => ?_
  refine tr_region [1, 2] rfl rfl fun K hK => ?_
  iterate 2 refine evR_p ?_
  refine evR_e hK ?_; clear hK K
  refine hK1 _ ?_
  refine tr_seq fun K2 hK2 => ?_
  refine tr_seq fun K3 hK3 => ?_
  refine tr_region [1, 2, 10] rfl rfl fun K hK => ?_
  refine evR_c (hc := k8) (k := ?_)
  refine evR_p ?_
  refine evR_e hK ?_; clear hK K
  refine hK3 _ ?_
  refine tr_condB (fun ht1 => ?_) (fun ht1 => ?_)
  · skip
    (first | (exfalso; simp_all; done) | skip)
    all_goals
      refine tr_seq fun K4 hK4 => ?_
      refine tr_region [4] rfl rfl fun K hK => ?_
      refine evR_p ?_
      refine evR_e hK ?_; clear hK K
      refine hK4 _ ?_
      refine tr_ret ?_
      (try simp only [thenE, inBlkE])
      simp (maxSteps := 4000000) (disch := first | assumption | omega | (simp only [go_sem, *]; done) | (simp only [go_sem, *]; omega)) only [postA, postO, resV1, fzAll, go_sem, hq, Int.reduceToNat, Nat.reduceBEq, Nat.reduceEqDiff, Nat.reduceAdd, Nat.reduceMul, Nat.reduceLeDiff, Nat.reduceLT, Nat.reduceSub, ↓reduceIte, reduceCtorEq]
      all_goals (simp [hv, hpv, kr])
  · skip
    (first | (exfalso; simp_all; done) | skip)
    all_goals
      refine tr_skip ?_
      (try simp only [thenE, inBlkE])
      refine hK2 _ ?_
      refine tr_seq fun K5 hK5 => ?_
      refine tr_region [1, 5] rfl rfl fun K hK => ?_
      refine evR_p ?_
      refine evR_c (hc := hk9) (k := ?_)
      iterate 2 refine evR_p ?_
      refine evR_e hK ?_; clear hK K
      refine hK5 _ ?_
      refine tr_seq fun K6 hK6 => ?_
      refine tr_region [1, 5, 6, 7] rfl rfl fun K hK => ?_
      refine evR_p ?_
      refine evR_c (hc := (k20 M hv)) (k := ?_)
      iterate 6 refine evR_p ?_
      refine evR_e hK ?_; clear hK K
      refine hK6 _ ?_
      refine tr_seq fun K7 hK7 => ?_
      refine tr_region [5, 6, 7, 8] rfl rfl fun K hK => ?_
      iterate 2 refine evR_p ?_
      refine evR_c (hc := (k11 M holM s)) (k := ?_)
      refine evR_p ?_
      refine evR_e hK ?_; clear hK K
      refine hK7 _ ?_
      refine tr_seq fun K8 hK8 => ?_
      refine tr_draw [] [4] mixed rfl (by kernel_rfl) rfl fun K hK => ?_
      iterate 3 refine evD_p ?_
      refine evD_g ?_
      refine evD_gc (hc := (c20 (progH M) (valid_max hpv).1 (valid_max hpv).2.1 (valid_max hpv).2.2)) (k := ?_)
      iterate 2 refine evD_p ?_
      iterate 2 refine evD_g ?_
      refine evD_gc (hc := (k12 M hr ho ha hm (choW M s))) (k := ?_)
      iterate 2 refine evD_g ?_
      refine evD_gc (hc := (c22 (progH M) (valid_max hpv).1 (valid_max hpv).2.1 (valid_max hpv).2.2 (choW M s))) (k := ?_)
      refine evD_g ?_
      iterate 2 refine evD_p ?_
      refine evD_g ?_
      refine evD_gc (hc := (k19 M hr ho ha hm)) (k := ?_)
      iterate 2 refine evD_p ?_
      refine evD_e hK ?_; clear hK K
      refine hK8 _ ?_
      refine tr_ret ?_
      (try simp only [thenE, inBlkE])
      simp (maxSteps := 4000000) (disch := first | assumption | omega | (simp only [go_sem, *]; done) | (simp only [go_sem, *]; omega)) only [postA, postO, resV1, fzAll, go_sem, hq, Int.reduceToNat, Nat.reduceBEq, Nat.reduceEqDiff, Nat.reduceAdd, Nat.reduceMul, Nat.reduceLeDiff, Nat.reduceLT, Nat.reduceSub, ↓reduceIte, reduceCtorEq]
      all_goals (simp [hv, hpv, kr])

end Go.Proofs.YtaaongcfeldcoaaDoor


namespace Go.Proofs.YtaaongcfeldcoaaDoor
open Go.RowKit
set_option linter.unusedVariables false
set_option linter.unusedSimpArgs false
theorem mem_keptH {h : Hr} {s : Int} {x : Int} : ∀ {n : Nat}, x ∈ keptH h s n ↔ ∃ k : Nat, k < n ∧ x = k ∧ 0 < manyF h s k h.offers.length
  | 0 => by simp [keptH]
  | n + 1 => by
    simp only [keptH]
    split
    · rename_i hn
      rw [List.mem_append, mem_keptH (n := n), List.mem_singleton]
      constructor
      · rintro (⟨k, hk, h1, h2⟩ | e)
        · exact ⟨k, by omega, h1, h2⟩
        · exact ⟨n, by omega, e, hn⟩
      · rintro ⟨k, hk, h1, h2⟩
        by_cases e : k = n
        · subst e; exact .inr h1
        · exact .inl ⟨k, by omega, h1, h2⟩
    · rename_i hn
      rw [mem_keptH (n := n)]
      constructor
      · rintro ⟨k, hk, h1, h2⟩; exact ⟨k, by omega, h1, h2⟩
      · rintro ⟨k, hk, h1, h2⟩
        by_cases e : k = n
        · subst e; exact absurd h2 hn
        · exact ⟨k, by omega, h1, h2⟩
/-- A choice that fits and keeps the promise fits where the promise must be kept. -/
theorem kept_with {M : Hr} (hv : validH M = true) {n : Int} (hn : 0 ≤ n ∧ n ≤ 11) {s : Int} (hc : choiceH M s = true) : keepsH (withH M n) s = (keepsH M s && decide (n ∈ keptW M s 12)) := by
  rw [with_keeps hv hn]
  congr 1
  obtain ⟨k, rfl, hk⟩ := choiceH_nat hc
  rw [keptW_H (validH_all hv) k 12 (by omega)]
  obtain ⟨p, rfl⟩ := Int.eq_ofNat_of_zero_le hn.1
  have hr := manyF_range M k p M.offers.length
  rw [Bool.eq_iff_iff]
  simp only [Bool.not_eq_true', decide_eq_false_iff_not, decide_eq_true_eq, mem_keptH]
  constructor
  · intro h; exact ⟨p, by omega, rfl, by omega⟩
  · rintro ⟨q, hq, e, h⟩
    have : q = p := by omega
    subst this; omega
end Go.Proofs.YtaaongcfeldcoaaDoor

namespace Go.Proofs.YtaaongcfeldcoaaDoor
open Go.RowKit
set_option linter.unusedVariables false
set_option linter.unusedSimpArgs false
/-- Whoever asks less lets fit what fitted. -/
theorem keeps_less {h k : Hr} (kv : validH k = true) (ho : k.offers = h.offers) {s : Int}
    (hr : ∀ i, i < k.rooms.length → secF h s i h.offers.length = 0 ∨ (i < h.rooms.length ∧ (h.rooms.getD i sp0).to - (h.rooms.getD i sp0).fr ≤ (k.rooms.getD i sp0).to - (k.rooms.getD i sp0).fr))
    (ha : ∀ a ∈ k.apart, a ∈ h.apart) (hm : ∀ n ∈ k.must, n ∈ h.must) (hk : keepsH h s = true) : keepsH k s = true := by
  have e1 : ∀ p n, manyF k s p n = manyF h s p n := fun p n => by unfold manyF; rw [ho]
  have e2 : ∀ p n, secF k s p n = secF h s p n := fun p n => by unfold secF; rw [ho]
  have e3 : ∀ p r n, inF k s p r n = inF h s p r n := fun p r n => by unfold inF; rw [ho]
  have e4 : choiceH k s = choiceH h s := by unfold choiceH; rw [ho]
  have kV := validH_all kv
  unfold keepsH at hk ⊢
  rw [Bool.and_eq_true, Bool.and_eq_true] at hk
  rw [kv, e4, hk.2.1, Bool.true_and, Bool.true_and]
  have hf := hk.2.2
  unfold fitsH at hf ⊢
  simp only [Bool.and_eq_true, allTo_iff, decide_eq_true_eq, List.all_eq_true, e1, e2, e3, ho] at hf ⊢
  obtain ⟨h1, h2, h3, h4⟩ := hf
  refine ⟨h1, fun i hi => ?_, fun a h' => h3 a (ha a h'), fun n h' => h4 n (hm n h')⟩
  rcases hr i hi with e | ⟨h5, h6⟩
  · rw [e]; have := kV.rm i hi; omega
  · have := h2 i h5; omega
/-- The last room, longer. -/
def longL (l : List Sp) (x : Int) : List Sp := if 0 < l.length then l.set (l.length - 1) ⟨(l.getD (l.length - 1) sp0).fr, (l.getD (l.length - 1) sp0).to + x⟩ else l
def longH (h : Hr) (x : Int) : Hr := ⟨longL h.rooms x, h.offers, h.apart, h.must⟩
theorem getD_set' {l : List Sp} {i j : Nat} {a : Sp} (hi : i < l.length) : (l.set i a).getD j sp0 = if j = i then a else l.getD j sp0 := by
  by_cases e : j = i
  · subst e; simp [List.getD, hi]
  · rw [if_neg e]; simp [List.getD, List.getElem?_set, Ne.symm e]
theorem longL_length (l : List Sp) (x : Int) : (longL l x).length = l.length := by unfold longL; split <;> simp
theorem longL_getD (l : List Sp) (x : Int) {i : Nat} (hi : i < l.length) : ((longL l x).getD i sp0).fr = (l.getD i sp0).fr ∧ ((longL l x).getD i sp0).to = (if i = l.length - 1 then (l.getD i sp0).to + x else (l.getD i sp0).to) := by
  unfold longL
  rw [if_pos (by omega), getD_set' (by omega)]
  by_cases e : i = l.length - 1
  · rw [if_pos e, if_pos e, e]; exact ⟨rfl, rfl⟩
  · rw [if_neg e, if_neg e]; exact ⟨rfl, rfl⟩
theorem sps_iff {l : List Sp} : spsB l = true ↔ ∀ i, i < l.length → 0 ≤ (l.getD i sp0).fr ∧ (l.getD i sp0).fr < (l.getD i sp0).to ∧ (l.getD i sp0).to ≤ 10000000 ∧ (0 < i → (l.getD (i - 1) sp0).to ≤ (l.getD i sp0).fr) := by
  unfold spsB; rw [allTo_iff]
  exact ⟨fun h i hi => spOk_iff.1 (h i hi), fun h i hi => spOk_iff.2 (h i hi)⟩
theorem valid_rooms {h : Hr} {l : List Sp} (hv : validH h = true) (hl : l.length = h.rooms.length) (hs : spsB l = true) : validH ⟨l, h.offers, h.apart, h.must⟩ = true := by
  simp only [validH, Bool.and_eq_true, decide_eq_true_eq, List.all_eq_true] at hv ⊢
  obtain ⟨h1, h2, h3, h4, h5, h6, h7, h8, h9, h10⟩ := hv
  exact ⟨by rw [hl]; exact h1, h2, h3, hs, fun o ho => by rw [hl]; exact h5 o ho, h6, h7, h8, h9, h10⟩
theorem long_valid {h : Hr} (hv : validH h = true) {x : Int} (hx : 0 ≤ x) (hm : ∀ i, i < h.rooms.length → (h.rooms.getD i sp0).to + x ≤ 10000000) : validH (longH h x) = true := by
  have hV := validH_all hv
  refine valid_rooms hv (longL_length _ _) (sps_iff.2 fun i hi => ?_)
  rw [longL_length] at hi
  obtain ⟨e1, e2⟩ := longL_getD h.rooms x hi
  have h1 := hV.rm i hi
  have h2 := hm i hi
  rw [e1, e2]
  refine ⟨h1.1, by split <;> omega, by split <;> omega, fun h0 => ?_⟩
  obtain ⟨-, e4⟩ := longL_getD h.rooms x (i := i - 1) (by omega)
  rw [e4, if_neg (by omega)]
  exact h1.2.2.2 h0
theorem long_keeps {h : Hr} (hv : validH h = true) {x : Int} (hx : 0 ≤ x) (hm : ∀ i, i < h.rooms.length → (h.rooms.getD i sp0).to + x ≤ 10000000) (s : Int) (hk : keepsH h s = true) : keepsH (longH h x) s = true := by
  refine keeps_less (h := h) (long_valid hv hx hm) rfl (fun i hi => .inr ?_) (fun a h => h) (fun n h => h) hk
  have hi' : i < h.rooms.length := by simpa [longH, longL_length] using hi
  obtain ⟨e1, e2⟩ := longL_getD h.rooms x hi'
  refine ⟨hi', ?_⟩
  show _ ≤ ((longL h.rooms x).getD i sp0).to - ((longL h.rooms x).getD i sp0).fr
  rw [e1, e2]; split <;> omega
/-- Without a pair that is apart; without a promise that must be kept. -/
def cutL {α : Type} (l : List α) (k : Nat) : List α := l.take k ++ l.drop (k + 1)
def looseH (h : Hr) (k : Nat) : Hr := ⟨h.rooms, h.offers, cutL h.apart k, h.must⟩
def freeH (h : Hr) (k : Nat) : Hr := ⟨h.rooms, h.offers, h.apart, cutL h.must k⟩
theorem cutL_sub {α : Type} (l : List α) (k : Nat) : (cutL l k).Sublist l := by
  have h1 : (l.drop (k + 1)).Sublist (l.drop k) := by
    rw [← List.drop_drop]; exact List.drop_sublist 1 _
  have := (List.Sublist.refl (l.take k)).append h1
  rwa [List.take_append_drop] at this
theorem cutL_none {α : Type} {l : List α} (h : l.length = 0) (k : Nat) : cutL l k = l := by rw [List.length_eq_zero_iff.1 h]; simp [cutL]
theorem cutL_len {α : Type} (l : List α) (k : Nat) : (cutL l k).length ≤ l.length := (cutL_sub l k).length_le
theorem asc_sub {α : Type} {d : α} {lt : α → α → Bool} (htr : ∀ a b c, lt a b = true → lt b c = true → lt a c = true) {l m : List α} (h : ascB d lt l = true) (hs : m.Sublist l) : ascB d lt m = true := by
  refine pw_asc (List.Pairwise.sublist hs ?_)
  rw [List.pairwise_iff_getElem]
  intro i j hi hj hij
  have := asc_lt htr h hij hj
  simpa [List.getD, hi, hj] using this
theorem loose_valid {h : Hr} (hv : validH h = true) (k : Nat) : validH (looseH h k) = true := by
  simp only [validH, Bool.and_eq_true, decide_eq_true_eq, List.all_eq_true] at hv ⊢
  obtain ⟨h1, h2, h3, h4, h5, h6, h7, h8, h9, h10⟩ := hv
  have := cutL_len h.apart k
  exact ⟨h1, h2, by show ((cutL h.apart k).length : Int) ≤ 12; omega, h4, h5, fun a ha => h6 a ((cutL_sub _ _).subset ha), h7, h8, asc_sub p2Lt_tr h9 (cutL_sub _ _), h10⟩
theorem free_valid {h : Hr} (hv : validH h = true) (k : Nat) : validH (freeH h k) = true := by
  simp only [validH, Bool.and_eq_true, decide_eq_true_eq, List.all_eq_true] at hv ⊢
  obtain ⟨h1, h2, h3, h4, h5, h6, h7, h8, h9, h10⟩ := hv
  exact ⟨h1, h2, h3, h4, h5, h6, fun a ha => h7 a ((cutL_sub _ _).subset ha), h8, h9, asc_sub (fun a b c h k => by simp only [decide_eq_true_eq] at *; omega) h10 (cutL_sub _ _)⟩
theorem loose_keeps {h : Hr} (hv : validH h = true) (k : Nat) (s : Int) (hk : keepsH h s = true) : keepsH (looseH h k) s = true :=
  keeps_less (h := h) (loose_valid hv k) rfl (fun i hi => .inr ⟨hi, Int.le_refl _⟩) (fun a ha => (cutL_sub _ _).subset ha) (fun n h => h) hk
theorem free_keeps {h : Hr} (hv : validH h = true) (k : Nat) (s : Int) (hk : keepsH h s = true) : keepsH (freeH h k) s = true :=
  keeps_less (h := h) (free_valid hv k) rfl (fun i hi => .inr ⟨hi, Int.le_refl _⟩) (fun a h => h) (fun n ha => (cutL_sub _ _).subset ha) hk
theorem with_less {h : Hr} (hv : validH h = true) {n : Int} (hn : 0 ≤ n ∧ n ≤ 11) (hf : (bestH (withH h n)).found = true) : (bestH h).found = true ∧ (bestH (withH h n)).gain ≤ (bestH h).gain :=
  best_mono (with_valid hv hn) hv rfl (fun s hs => by rw [with_keeps hv hn, Bool.and_eq_true] at hs; exact hs.1) hf
/-- Seconds lost at the beginning of the first room. -/
def lateL (l : List Sp) (x : Int) : List Sp := l.set 0 ⟨(l.getD 0 sp0).fr + x, (l.getD 0 sp0).to⟩
def lateH (h : Hr) (x : Int) : Hr := ⟨lateL h.rooms x, h.offers, h.apart, h.must⟩
theorem late_valid {h : Hr} (hv : validH h = true) (h0 : 0 < h.rooms.length) {x : Int} (hx : 0 ≤ x ∧ x < (h.rooms.getD 0 sp0).to - (h.rooms.getD 0 sp0).fr) : validH (lateH h x) = true := by
  have hV := validH_all hv
  refine valid_rooms hv (by simp [lateL]) (sps_iff.2 fun i hi => ?_)
  have hi' : i < h.rooms.length := by simpa [lateL] using hi
  have h1 := hV.rm i hi'
  unfold lateL
  rw [getD_set' h0, getD_set' h0]
  by_cases e : i = 0
  · subst e
    rw [if_pos rfl]
    exact ⟨by show 0 ≤ (h.rooms.getD 0 sp0).fr + x; omega, by show (h.rooms.getD 0 sp0).fr + x < (h.rooms.getD 0 sp0).to; omega, h1.2.2.1, fun h => by omega⟩
  · rw [if_neg e]
    refine ⟨h1.1, h1.2.1, h1.2.2.1, fun h2 => ?_⟩
    have h3 := h1.2.2.2 h2
    by_cases e2 : i - 1 = 0
    · rw [if_pos e2]; rw [e2] at h3; exact h3
    · rw [if_neg e2]; exact h3
theorem late_fits {h : Hr} (hv : validH h = true) (h0 : 0 < h.rooms.length) {x : Int} (hx : 0 ≤ x ∧ x < (h.rooms.getD 0 sp0).to - (h.rooms.getD 0 sp0).fr) (s : Int) (hk : keepsH (lateH h x) s = true) : keepsH h s = true := by
  refine keeps_less (h := lateH h x) hv rfl (fun i hi => .inr ⟨by simpa [lateH, lateL] using hi, ?_⟩) (fun a h => h) (fun n h => h) hk
  show ((lateL h.rooms x).getD i sp0).to - ((lateL h.rooms x).getD i sp0).fr ≤ _
  unfold lateL
  rw [getD_set' h0]
  by_cases e : i = 0
  · subst e; rw [if_pos rfl]; show (h.rooms.getD 0 sp0).to - ((h.rooms.getD 0 sp0).fr + x) ≤ _; omega
  · rw [if_neg e]; exact Int.le_refl _
/-- A choice that takes nothing in the first room. -/
theorem late_keeps {h : Hr} (hv : validH h = true) (h0 : 0 < h.rooms.length) {x : Int} (hx : 0 ≤ x ∧ x < (h.rooms.getD 0 sp0).to - (h.rooms.getD 0 sp0).fr) {s : Int} (ht : ∀ i, i < h.offers.length → tkn s i = true → 0 < (h.offers.getD i of0).rm) (hk : keepsH h s = true) : keepsH (lateH h x) s = true := by
  refine keeps_less (h := h) (late_valid hv h0 hx) rfl (fun i hi => ?_) (fun a h => h) (fun n h => h) hk
  have hi' : i < h.rooms.length := by simpa [lateH, lateL] using hi
  by_cases e : i = 0
  · subst e
    refine .inl (smT_zero fun j hj => ?_)
    by_cases hb : tkn s j = true
    · have := ht j hj hb
      rw [if_neg]
      simp only [Bool.and_eq_true, decide_eq_true_eq]
      rintro ⟨-, h2⟩; omega
    · rw [if_neg]; intro h2; exact hb (Bool.and_eq_true _ _ ▸ h2).1
  · refine .inr ⟨hi', ?_⟩
    show _ ≤ ((lateL h.rooms x).getD i sp0).to - ((lateL h.rooms x).getD i sp0).fr
    unfold lateL
    rw [getD_set' h0, if_neg e]; exact Int.le_refl _
theorem late_best {h : Hr} (hv : validH h = true) (h0 : 0 < h.rooms.length) {x : Int} (hx : 0 ≤ x ∧ x < (h.rooms.getD 0 sp0).to - (h.rooms.getD 0 sp0).fr) (hf : (bestH (lateH h x)).found = true) : (bestH h).found = true ∧ (bestH (lateH h x)).gain ≤ (bestH h).gain :=
  best_mono (late_valid hv h0 hx) hv rfl (fun s hs => late_fits hv h0 hx s hs) hf
/-- The offers that lie in no first room, as bits. -/
def aprN (h : Hr) : Nat → Nat
  | 0 => 0
  | n + 1 => if 0 < (h.offers.getD n of0).rm then aprN h n + 2 ^ n else aprN h n
theorem aprN_spec (h : Hr) : ∀ n, aprN h n < 2 ^ n ∧ ∀ i, (aprN h n).testBit i = true → i < n ∧ 0 < (h.offers.getD i of0).rm
  | 0 => ⟨by simp [aprN], fun i hi => by simp [aprN] at hi⟩
  | n + 1 => by
    obtain ⟨h1, h2⟩ := aprN_spec h n
    have hp : 2 ^ (n + 1) = 2 ^ n + 2 ^ n := by rw [Nat.pow_succ]; omega
    simp only [aprN]
    split
    · rename_i hr
      refine ⟨by omega, fun i hi => ?_⟩
      rw [Nat.add_comm] at hi
      by_cases e : i = n
      · subst e; exact ⟨by omega, hr⟩
      · have hi2 : (aprN h n).testBit i = true := by
          by_cases hlt : i < n
          · rw [← Nat.testBit_two_pow_add_gt hlt (aprN h n)]; exact hi
          · rw [Nat.testBit_lt_two_pow] at hi
            · cases hi
            · have : 2 ^ (n + 1) ≤ 2 ^ i := Nat.pow_le_pow_right (by omega) (by omega)
              omega
        have := h2 i hi2
        exact ⟨by omega, this.2⟩
    · refine ⟨by omega, fun i hi => ?_⟩
      have := h2 i hi
      exact ⟨by omega, this.2⟩
theorem apr_step {h : Hr} {n : Nat} (hn : n < 12) : (0 < (h.offers.getD n of0).rm → IntKind.i64.wrap ((aprN h n : Nat) + shlW .i64 1 n) = ((aprN h (n + 1) : Nat) : Int)) ∧ (¬ 0 < (h.offers.getD n of0).rm → aprN h (n + 1) = aprN h n) := by
  have h1 := (aprN_spec h n).1
  have h2 : 2 ^ n ≤ 2 ^ 12 := Nat.pow_le_pow_right (by omega) (by omega)
  refine ⟨fun hr => ?_, fun hr => ?_⟩
  · rw [shl1 (by omega), w64 (by omega)]; simp only [aprN]; rw [if_pos hr]; omega
  · simp only [aprN]; rw [if_neg hr]
theorem later_room {h : Hr} (hol : h.offers.length ≤ 12) {s : Nat} (hs : s < 2 ^ h.offers.length) : ∀ i, i < h.offers.length → tkn (bitsV .and .i64 (s : Nat) ((aprN h h.offers.length : Nat) : Int)) i = true → 0 < (h.offers.getD i of0).rm := by
  intro i hi ht
  have hp : 2 ^ h.offers.length ≤ 2 ^ 12 := Nat.pow_le_pow_right (by omega) hol
  obtain ⟨h1, h2⟩ := aprN_spec h h.offers.length
  rw [andN (by omega) (by omega)] at ht
  have hle : s &&& aprN h h.offers.length ≤ s := Nat.and_le_left
  unfold tkn at ht
  rw [cBit_nat (by omega) (by omega), Nat.testBit_and, Bool.and_eq_true] at ht
  exact (h2 i ht.2).2
theorem to_mono {l : List Sp} (h : spsB l = true) {i j : Nat} (hij : i ≤ j) (hj : j < l.length) : (l.getD i sp0).to ≤ (l.getD j sp0).to := by
  rw [sps_iff] at h
  induction j with
  | zero => have : i = 0 := by omega
            subst this; exact Int.le_refl _
  | succ j ih =>
    by_cases e : i = j + 1
    · subst e; exact Int.le_refl _
    · have h1 := ih (by omega) (by omega)
      have h2 := h (j + 1) hj
      rw [Nat.add_sub_cancel] at h2
      have := h2.2.2.2 (by omega)
      omega
theorem made_to {fr : Int} {rs : List P2} {os : List Of} {ap mu : Int} (hf : okI fr) (hr : ∀ p ∈ rs, okP2 p) {i : Nat} (hi : i < (madeH fr rs os ap mu).rooms.length) : ((madeH fr rs os ap mu).rooms.getD i sp0).to ≤ 4000 := by
  have p1 := pickW_rng fr (n := 3600) (by omega) (by omega) hf
  have hl : (mkR rs (pickW fr 3600) (min rs.length 4)).2.length = min rs.length 4 := mkR_len rs (pickW fr 3600) (min rs.length 4)
  have hi2 : i < (mkR rs (pickW fr 3600) (min rs.length 4)).2.length := hi
  obtain ⟨r1, r2, r3⟩ := mkR_at hr (a0 := pickW fr 3600) (by omega) (min rs.length 4) (by omega)
  have hs : spsB (mkR rs (pickW fr 3600) (min rs.length 4)).2 = true := by
    unfold spsB; rw [allTo_iff, hl]; exact r2
  have h1 := to_mono hs (show i ≤ min rs.length 4 - 1 by omega) (by omega)
  have h2 := r3 (by omega)
  show ((mkR rs (pickW fr 3600) (min rs.length 4)).2.getD i sp0).to ≤ 4000
  omega
end Go.Proofs.YtaaongcfeldcoaaDoor

namespace Go.Proofs.YtaaongcfeldcoaaDoor
open Go.RowKit
set_option linter.unusedVariables false
set_option linter.unusedSimpArgs false
def hasT (l : List Int) (n : Int) : Nat → Bool
  | 0 => false
  | i + 1 => hasT l n i || decide (l.getD i 0 = n)
theorem hasT_iff {l : List Int} {n : Int} : ∀ {i : Nat}, i ≤ l.length → (hasT l n i = true ↔ n ∈ l.take i)
  | 0, _ => by simp [hasT]
  | i + 1, hi => by
    have h1 := hasT_iff (l := l) (n := n) (i := i) (by omega)
    rw [take_snocI (by omega), List.mem_append, List.mem_singleton]
    simp only [hasT, Bool.or_eq_true, decide_eq_true_eq, h1]
    constructor
    · rintro (h | h)
      · exact .inl h
      · exact .inr h.symm
    · rintro (h | h)
      · exact .inl h
      · exact .inr h.symm
theorem hasT_all {l : List Int} {n : Int} : hasT l n l.length = decide (n ∈ l) := by
  rw [Bool.eq_iff_iff, hasT_iff (Nat.le_refl _), List.take_length, decide_eq_true_eq]
theorem rf_found {M : Hr} (hv : validH M = true) {n : Int} (hn : 0 ≤ n ∧ n ≤ 11) (hx : (bestH (withH M n)).found = true) :
    choiceH M (bestH (withH M n)).set = true ∧ keepsH M (bestH (withH M n)).set = true ∧ hasT (keptW M (bestH (withH M n)).set 12) n (keptW M (bestH (withH M n)).set 12).length = true := by
  obtain ⟨h1, -⟩ := best_fits (with_valid hv hn) hx
  have hc : choiceH M (bestH (withH M n)).set = true := by
    have h2 := h1
    unfold keepsH at h2
    rw [Bool.and_eq_true, Bool.and_eq_true] at h2
    exact h2.2.1
  rw [kept_with hv hn hc, Bool.and_eq_true] at h1
  exact ⟨hc, h1.1, by rw [hasT_all]; exact h1.2⟩
theorem rf_none {M : Hr} (hv : validH M = true) {n : Int} (hn : 0 ≤ n ∧ n ≤ 11) (hx : (bestH (withH M n)).found = false) {s : Int} (hc : choiceH M s = true) :
    (hasT (keptW M s 12) n (keptW M s 12).length && keepsH M s) = false := by
  have h1 := (best_none (with_valid hv hn) hx).2.2 s
  rw [kept_with hv hn hc] at h1
  rw [hasT_all, Bool.and_comm]; exact h1
def rows3 (M : Hr) (x : Int) (a b : Nat) : List (List V) := [encHr (longH M x), encHr (looseH M a), encHr (freeH M b)]
theorem rows3_len (M : Hr) (x : Int) (a b : Nat) : (rows3 M x a b).length = 3 := rfl
/-- One of the three hours that ask less. -/
theorem less_at {M : Hr} (hv : validH M = true) {x : Int} (hx : 0 ≤ x) (hm : ∀ i, i < M.rooms.length → (M.rooms.getD i sp0).to + x ≤ 10000000) (a b : Nat) {i : Nat} (hi : i < 3) :
    ∃ k : Hr, (rows3 M x a b).getD i [] = encHr k ∧ validH k = true ∧ (∀ s, keepsH M s = true → keepsH k s = true) ∧ ((bestH M).found = true → (bestH k).found = true ∧ (bestH M).gain ≤ (bestH k).gain) := by
  match i, hi with
  | 0, _ => exact ⟨_, rfl, long_valid hv hx hm, fun s => long_keeps hv hx hm s, best_mono hv (long_valid hv hx hm) rfl fun s => long_keeps hv hx hm s⟩
  | 1, _ => exact ⟨_, rfl, loose_valid hv a, fun s => loose_keeps hv a s, best_mono hv (loose_valid hv a) rfl fun s => loose_keeps hv a s⟩
  | 2, _ => exact ⟨_, rfl, free_valid hv b, fun s => free_keeps hv b s, best_mono hv (free_valid hv b) rfl fun s => free_keeps hv b s⟩
theorem encI_cut (l : List Int) (k : Nat) : encI (l.take k) ++ encI (l.drop (k + 1)) = encI (cutL l k) := by simp [encI, cutL]
theorem encP2s_cut (l : List P2) (k : Nat) : encP2s (l.take k) ++ encP2s (l.drop (k + 1)) = encP2s (cutL l k) := by simp [encP2s, cutL]
theorem encI_take' (l : List Int) (k : Nat) : List.take k (encI l) = encI (l.take k) := by simp [encI, List.map_take]
theorem encI_drop' (l : List Int) (k : Nat) : List.drop k (encI l) = encI (l.drop k) := by simp [encI, List.map_drop]
theorem encP2s_take (l : List P2) (k : Nat) : List.take k (encP2s l) = encP2s (l.take k) := by simp [encP2s, List.map_take]
theorem encP2s_drop (l : List P2) (k : Nat) : List.drop k (encP2s l) = encP2s (l.drop k) := by simp [encP2s, List.map_drop]
theorem encSps_set (l : List Sp) (i : Nat) (r : Sp) : List.set (encSps l) i (encSp r) = encSps (l.set i r) := by simp [encSps, List.map_set]
end Go.Proofs.YtaaongcfeldcoaaDoor

namespace Go.Proofs.YtaaongcfeldcoaaDoor
open Go.ChangeShapes Go.WideShapes Go.ChangeAt Go.RowKit
set_option linter.unusedVariables false
set_option linter.unusedSimpArgs false

section
variable {H : Type} {enc : TypeId × Value → H} {P : Program} {w : World}

/-- The fields of a struct of n cells from the cell 'off' on. -/
def DecFs (enc : TypeId × Value → H) (P : Program) (w : World) {α : Type} (n off : Nat) (fs : List Field) (ec : α → List V) (Q : α → Prop) : Prop :=
  ∀ (fuel : Nat) (cs : List Value), cs.length = n → (∀ f ∈ fs, ∃ x, DataW.trod enc P w 0 (fun _ => true) true fuel f.type ((cs.drop f.offset).take (P.cellsOf f.type)) = some x) → ∃ a, Q a ∧ Rd w (cs.drop off) (ec a)

theorem decFs_nil {n : Nat} : DecFs enc P w n n [] (fun _ : Unit => []) fun _ => True := by
  intro fuel cs hl _
  exact ⟨(), trivial, by rw [List.drop_eq_nil_of_le (by omega)]; exact Rd.nil⟩
theorem decFs_cons {α β : Type} {n off : Nat} {f : Field} {fs : List Field} {m : Nat} {ea : α → List V} {eb : β → List V} {Qa : α → Prop} {Qb : β → Prop}
    (ho : f.offset = off) (hm : P.cellsOf f.type = m) (ha : Dec enc P w f.type ea Qa) (hb : DecFs enc P w n (off + m) fs eb Qb) :
    DecFs enc P w n off (f :: fs) (fun p : α × β => ea p.1 ++ eb p.2) fun p => Qa p.1 ∧ Qb p.2 := by
  intro fuel cs hl h
  obtain ⟨x, hx⟩ := h f (by simp)
  obtain ⟨a, qa, ra⟩ := ha _ _ _ hx
  obtain ⟨b, qb, rb⟩ := hb fuel cs hl fun g hg => h g (List.mem_cons_of_mem _ hg)
  refine ⟨(a, b), ⟨qa, qb⟩, ?_⟩
  have := ra.append rb
  rw [ho, hm] at this
  have e : List.take m (List.drop off cs) ++ List.drop (off + m) cs = List.drop off cs := by
    rw [← List.drop_drop, List.take_append_drop]
  rw [e] at this
  exact this
theorem dec_struct {α : Type} {t : TypeId} {fs : Array Field} {n : Nat} {ec : α → List V} {Q : α → Prop} (ht : P.underlying t = some (.struct fs)) (hn : P.cellsOf t = n) (h : DecFs enc P w n 0 fs.toList ec Q) : Dec enc P w t ec Q := by
  intro fuel cs x hx
  obtain ⟨xs, k, rfl, rfl, hl, hxl, hi⟩ := DataW.trod_struct ht hx
  obtain ⟨a, qa, ra⟩ := h k cs (by rw [hl, hn]) fun f hf => by
    obtain ⟨i, hil, rfl⟩ := List.mem_iff_getElem.1 hf
    have hil' : i < fs.size := by simpa using hil
    have := hi i fs[i] (by simp [hil'])
    rw [List.getElem?_eq_getElem (by omega)] at this
    exact ⟨_, by simpa using this⟩
  exact ⟨a, qa, by simpa using ra⟩

theorem rel_row {α : Type} {e : TypeId} {sz n : Nat} {ec : α → List V} {Q : α → Prop} (hs : P.cellsOf e = sz) (hd : Dec enc P w e ec Q) {b off len cap : Nat} (hl : len ≤ cap) (hm : cap ≤ maxLen)
    (hel : ∀ i, i < len → ∃ cs' x, w.cells? 0 ((⟨b, off, none⟩ : Addr).add (i * P.cellsOf e)) (P.cellsOf e) = some cs' ∧ DataW.trod enc P w 0 (fun _ => true) true n e cs' = some x) :
    ∃ asx : List α, (∀ a ∈ asx, Q a) ∧ asx.length = len ∧ Rel w (fun _ => False) (fun _ => 0) (fun _ => undef) 0 true (.sl sz (asx.map ec)) (.slice (some ⟨b, off, none⟩) len cap) := by
  obtain ⟨asx, k1, k2, k3⟩ := hd.choose (fun i => ((w.cells? 0 ((⟨b, off, none⟩ : Addr).add (i * P.cellsOf e)) (P.cellsOf e)).getD [])) len fun i hi => by
    obtain ⟨cs', x, q1, q2⟩ := hel i hi
    rw [q1]; exact ⟨_, _, q2⟩
  refine ⟨asx, k2, k1, ?_⟩
  have rows : ∀ i (hi : i < asx.length), ((asx.map ec).getD i []) = ec asx[i] := fun i hi => by simp [List.getD, hi]
  have key : ∀ i (hi : i < asx.length), ∃ cs', Rd w cs' (ec asx[i]) ∧ cs'.length = sz ∧ ∀ j, j < sz → w.cell? ⟨b, off + (i * sz + j), none⟩ = some (cs'.getD j undef) := fun i hi => by
    obtain ⟨cs', x, q1, q2⟩ := hel i (by omega)
    have := k3 i hi
    simp only [q1, Option.getD_some] at this
    obtain ⟨hl', hc'⟩ := cells_get q1
    rw [hs] at hl' hc'
    refine ⟨cs', this, hl', fun j hj => ?_⟩
    rw [← hc' j hj]
    congr 1
    unfold Addr.add
    by_cases hi0 : i * sz = 0
    · by_cases hj0 : j = 0 <;> simp [hi0, hj0]
    · by_cases hj0 : j = 0 <;> simp [hi0, hj0, Nat.add_assoc]
  refine .sl true sz (asx.map ec) b off len cap (fun i j => ((w.cell? ⟨b, off + (i * sz + j), none⟩).getD undef)) (by simp [k1]) hl hm ?_ ?_ ?_ ?_
  · intro i hi
    have hi' : i < asx.length := by simpa using hi
    obtain ⟨cs', q1, q2, q3⟩ := key i hi'
    rw [rows i hi', q1.1, q2]
  · intro i j hi hj
    have hi' : i < asx.length := by simpa using hi
    obtain ⟨cs', q1, q2, q3⟩ := key i hi'
    rw [rows i hi']
    exact (q1.2 j (by rw [q1.1]; omega)).1
  · intro i j hi hj
    have hi' : i < asx.length := by simpa using hi
    obtain ⟨cs', q1, q2, q3⟩ := key i hi'
    simp only [q3 j hj, Option.getD_some]
    exact ⟨trivial, id⟩
  · intro i j hi hj
    have hi' : i < asx.length := by simpa using hi
    obtain ⟨cs', q1, q2, q3⟩ := key i hi'
    rw [rows i hi']
    simp only [q3 j hj, Option.getD_some]
    exact (q1.2 j (by rw [q1.1]; omega)).2

/-- A slice within. -/
theorem dec_slice {α : Type} {t e : TypeId} {sz : Nat} {ec : α → List V} {Q : α → Prop} (ht : P.underlying t = some (.slice e)) (hs : P.cellsOf e = sz) (hz : 0 < sz) (hd : Dec enc P w e ec Q) :
    Dec enc P w t (fun asx : List α => [.sl sz (asx.map ec)]) fun asx => asx.length ≤ maxLen ∧ ∀ a ∈ asx, Q a := by
  intro fuel cs x hf
  rcases Deep.open_slice ht hf with ⟨rfl, -⟩ | ⟨a, len, cap, m, n, D, Pl, rfl, -, hl, hm, hme, -, hel⟩
  · exact ⟨[], ⟨by simp, fun a ha => by simp at ha⟩, Rd.one rfl (.slnil _ _ _)⟩
  · simp only [if_true] at hme
    subst hme
    by_cases hc : m = 0
    · have : len = 0 := by omega
      subst hc; subst this
      exact ⟨[], ⟨by simp, fun a ha => by simp at ha⟩, Rd.one rfl (.slnil _ _ _)⟩
    · have hsp : a.spot = none := by
        obtain ⟨cs', q1, -⟩ := hel 0 (by omega)
        obtain ⟨-, hc'⟩ := cells_get q1
        have := hc' 0 (by omega)
        simp only [Nat.zero_mul, Addr.add, if_true] at this
        unfold World.cell? at this
        split at this
        · split at this
          · cases this
          · simpa using ‹¬ a.spot.isSome = true›
        · cases this
      obtain ⟨b, off, spot⟩ := a
      simp only at hsp
      subst hsp
      obtain ⟨asx, q, e1, hr⟩ := rel_row hs hd hl hm fun i hi => by
        obtain ⟨cs', q1, q2⟩ := hel i (by omega)
        exact ⟨cs', _, q1, q2⟩
      exact ⟨asx, ⟨by omega, q⟩, Rd.one rfl hr⟩
end
end Go.Proofs.YtaaongcfeldcoaaDoor

namespace Go.Proofs.YtaaongcfeldcoaaDoor
open Go.ChangeShapes Go.WideShapes Go.ChangeAt Go.RowKit
set_option linter.unusedVariables false
set_option maxRecDepth 100000
theorem Tryd.own : ownKnob Tryd.prog.godebug = none := by kernel_rfl
theorem Tryd.laidOut : laidOutB Tryd.prog = true := by kernel_rfl
def laid1 : List (String × DataW Unit) := [("aircheck/plan.conditions", Rows.laid_aircheck_plan_conditions)]
theorem g0 : Tryd.prog.globalNamed "aircheck/plan.conditions" = some 0 := by kernel_rfl
/-- The door's own heap meets the condition. -/
theorem door_met (os : Os) (args : Array Value) : laidMetH Tryd.prog laid1 ((World.doorLaid Tryd.prog 400 os).forCall (fun _ _ => 0) ⟨#[], args, []⟩).memory :=
  laidMetH_of_parts3 (fuel := 8) (laidMet_of_run' 8 (by kernel_rfl) (by kernel_rfl)) (by kernel_rfl) (by kernel_rfl)
def nameC (k : UInt8) : List UInt8 := [97, 105, 114, 99, 104, 101, 99, 107, 47, 112, 108, 97, 110, 46, 99, 111, 110, 100, 105, 116, 105, 111, 110, 115, 36, k]
theorem laidC : (Rows.laid_aircheck_plan_conditions : DataW Unit) = .iface "func table" (.agg ([49, 50, 51, 52].map fun k => .agg [.iface "func" (.lit (.string (nameC k)))])) := by kernel_rfl
theorem outC : (DataW.agg ([49, 50, 51, 52].map fun k => .agg [.iface "func" (.lit (.string (nameC k)))]) : DataW Unit).funcsOut = .agg ([49, 50, 51, 52].map fun k => .agg [.held (nameC k)]) := by kernel_rfl
theorem fn_cell {w : World} {base : Nat} {sp : Nat → Bool} {fuel n m0 : Nat} {e t : TypeId} {ps rs : Array TypeId} {va : Bool} {cs : List Value} {m : List MemPlace} {ks : List UInt8} {P : Program} {ta : TypeId} {fn : String} {fo : Nat}
    (ha : P.underlying ta = some (.array n e)) (he : ∃ f : Field, P.underlying e = some (.struct #[f]) ∧ f.type = t ∧ f.offset = 0) (hc : P.cellsOf e = 1) (hct : P.cellsOf t = 1) (hf : P.underlying t = some (.func ps rs va))
    (h : DataW.trod (funcToken P) P w base sp true fuel ta cs = some (.agg (ks.map fun k => .agg [.held (nameC k)]), m)) (i : Nat) (hi : i < n) (f0 : FuncId)
    (hone : ((List.range P.funcs.size).filter fun f => (P.funcs[f]?).any (·.name.toUTF8.data.toList == nameC (ks.getD i 0))) = [f0]) : cs[i]? = some (.func (.func f0) #[] #[]) := by
  obtain ⟨xs, m1, rfl, hx, hl, hn, hel⟩ := DataW.trod_array ha h
  simp only [Prod.mk.injEq, DataW.agg.injEq] at hx
  have h1 := hel i hi
  rw [hc, Nat.mul_one, List.getElem?_eq_getElem (by omega)] at h1
  obtain ⟨f, hu, hty, hoff⟩ := he
  obtain ⟨y0, n0, e1, e2, e3⟩ := trod_struct1 hu h1
  have h2 : (List.map (fun k => (DataW.agg [.held (nameC k)] : DataW (List UInt8))) ks)[i]? = some (.agg [y0.1]) := by
    rw [hx.1, List.getElem?_map, List.getElem?_eq_getElem (by omega), Option.map_some, e1]
  rw [List.getElem?_map] at h2
  obtain ⟨k2, h3, h4⟩ := Option.map_eq_some_iff.1 h2
  have h5 : y0.1 = .held (nameC k2) := by
    simp only [DataW.agg.injEq, List.cons.injEq, and_true] at h4; exact h4.symm
  have h6 : ks.getD i 0 = k2 := by simp [List.getD, h3]
  rw [hc] at e2
  obtain ⟨v, hv⟩ : ∃ v, (cs.drop i).take 1 = [v] := List.length_eq_one_iff.1 e2
  rw [hoff, hty, hct, hv] at e3
  have e4 : DataW.trod (funcToken P) P w base sp true n0 t [v] = some (.held (nameC k2), y0.2) := by
    have : y0 = (.held (nameC k2), y0.2) := by rw [← h5]
    rw [← this]; simpa using e3
  rw [h6] at hone
  have hvf := func_of_trod hf hone e4
  have h7 : ((cs.drop i).take 1)[0]? = some v := by rw [hv]; rfl
  rw [← hvf]
  simpa [List.getElem?_take, List.getElem?_drop] using h7
theorem gtc_of_laid {W : World} (h : laidMetH Tryd.prog laid1 W) : GTC W fun _ => False := by
  intro g hg
  have hg1 : g = 0 := by
    unfold gtab at hg
    by_cases e : g = 0
    · exact e
    · rw [if_neg e] at hg; exact (hg rfl).elim
  subst hg1
  obtain ⟨g1, t1, cs1, f1, p1, hg1, ht1, hv1, hd1⟩ := h.funcs (n := "aircheck/plan.conditions") (d := .agg ([49, 50, 51, 52].map fun k => .agg [.iface "func" (.lit (.string (nameC k)))])) (by
    rw [← laidC]; exact List.mem_singleton.2 rfl)
  obtain rfl := Option.some.inj (g0.symm.trans hg1)
  obtain rfl := Option.some.inj ((show (Tryd.prog.globals[0]?).map (·.type) = some 84 by kernel_rfl).symm.trans ht1)
  rw [outC] at hd1
  have hc := fun i hi f0 hone => fn_cell (fn := "") (fo := 0) (m0 := 0) Tryd.underlying84 ⟨_, Tryd.underlying83, rfl, rfl⟩ (by kernel_rfl) (by kernel_rfl) Tryd.underlying81 hd1 i hi f0 hone
  have h0 := hc 0 (by omega) 122 (by kernel_rfl)
  have h1 := hc 1 (by omega) 124 (by kernel_rfl)
  have h2 := hc 2 (by omega) 125 (by kernel_rfl)
  have h3 := hc 3 (by omega) 126 (by kernel_rfl)
  refine .ep true (gtab 0) 0 0 (fun j => .func (.func (condF j)) #[] #[]) (fun j hj => ?_) (fun j hj => ?_) (fun j hj => ?_)
  · match j, hj with
    | 0, _ => rfl
    | 1, _ => rfl
    | 2, _ => rfl
    | 3, _ => rfl
  · rw [Nat.zero_add]
    refine ⟨?_, id⟩
    rw [World.var?_cell hg1 hv1 j]
    match j, hj with
    | 0, _ => simpa [condF] using h0
    | 1, _ => simpa [condF] using h1
    | 2, _ => simpa [condF] using h2
    | 3, _ => simpa [condF] using h3
  · match j, hj with
    | 0, _ => exact .fn _ _ [] #[] rfl (fun i hi => by simp at hi)
    | 1, _ => exact .fn _ _ [] #[] rfl (fun i hi => by simp at hi)
    | 2, _ => exact .fn _ _ [] #[] rfl (fun i hi => by simp at hi)
    | 3, _ => exact .fn _ _ [] #[] rfl (fun i hi => by simp at hi)
end Go.Proofs.YtaaongcfeldcoaaDoor

namespace Go.Proofs.YtaaongcfeldcoaaDoor
open Go.ChangeShapes Go.WideShapes Go.ChangeAt Go.RowKit
structure Nb where
  fr : Int
  rs : List P2
  os : List Of
  ap : Int
  mu : Int
def encNb (x : Nb) : List V := [.int .i64 x.fr, .sl 2 (encP2s x.rs), .sl 4 (encOfs x.os), .int .i64 x.ap, .int .i64 x.mu]
section
variable {H : Type} {enc : TypeId × Value → H} {w : World}
theorem okI_of_wf {n : Int} (h : (Lit.int .i64 n).wf = true) : okI n := by
  simp [Lit.wf, IntKind.min, IntKind.max, IntKind.signed, IntKind.bits] at h
  unfold okI; omega
theorem decP2 : Dec enc Tryd.prog w 95 encP2 okP2 :=
  (dec_array (n := 2) (sz := 1) Tryd.underlying95 (by kernel_rfl) (by kernel_rfl) (dec_int Tryd.underlying3)).turn (fun xs => ⟨xs.getD 0 0, xs.getD 1 0⟩) fun xs h => by
    obtain ⟨h1, h2⟩ := h
    match xs, h1 with
    | [x, y], _ => exact ⟨rfl, okI_of_wf (h2 x (by simp)), okI_of_wf (h2 y (by simp))⟩
theorem decQ4 : Dec enc Tryd.prog w 112 encOf okO :=
  (dec_array (n := 4) (sz := 1) Tryd.underlying112 (by kernel_rfl) (by kernel_rfl) (dec_int Tryd.underlying3)).turn (fun xs => ⟨xs.getD 0 0, xs.getD 1 0, xs.getD 2 0, xs.getD 3 0⟩) fun xs h => by
    obtain ⟨h1, h2⟩ := h
    match xs, h1 with
    | [x, y, z, u], _ => exact ⟨rfl, okI_of_wf (h2 x (by simp)), okI_of_wf (h2 y (by simp)), okI_of_wf (h2 z (by simp)), okI_of_wf (h2 u (by simp))⟩
def okNb (x : Nb) : Prop := okI x.fr ∧ (x.rs.length ≤ maxLen ∧ ∀ p ∈ x.rs, okP2 p) ∧ (x.os.length ≤ maxLen ∧ ∀ o ∈ x.os, okO o)
theorem decNb : Dec enc Tryd.prog w 25 encNb okNb :=
  (dec_struct (n := 5) Tryd.underlying25 (by kernel_rfl)
    (decFs_cons (m := 1) rfl (by kernel_rfl) (dec_int Tryd.underlying3) (decFs_cons (m := 1) rfl (by kernel_rfl) (dec_slice (sz := 2) Tryd.underlying22 (by kernel_rfl) (by decide) decP2) (decFs_cons (m := 1) rfl (by kernel_rfl) (dec_slice (sz := 4) Tryd.underlying23 (by kernel_rfl) (by decide) decQ4)
      (decFs_cons (m := 1) rfl (by kernel_rfl) (dec_int Tryd.underlying3) (decFs_cons (m := 1) rfl (by kernel_rfl) (dec_int Tryd.underlying3) decFs_nil)))))).turn
    (fun x => ⟨x.1, x.2.1, x.2.2.1, x.2.2.2.1, x.2.2.2.2.1⟩) fun x h => ⟨rfl, okI_of_wf h.1, h.2.1, h.2.2.1⟩
end
end Go.Proofs.YtaaongcfeldcoaaDoor
