import Derived.Test.YtcphhbiehaimeaaF23
import Derived.Test.YtcphhbiehaimeaaAi24
import Derived.Test.YtcphhbiehaimeaaP23
import Derived.Test.YtcphhbiehaimeaaC23a
namespace Go.Proofs.Ytcphhbiehaimeaa
open Go.RowKit
set_option linter.unusedVariables false
set_option linter.unusedSimpArgs false
set_option maxRecDepth 100000
attribute [local go_sem] Nat.zero_add Nat.add_zero Nat.mul_one eq_self ne_eq not_true_eq_false not_false_eq_true decide_true decide_false decide_not Bool.false_eq_true List.filter_cons List.filter_nil true_and and_true beq_false beq_true Bool.not_true Bool.not_false Bool.and_true Bool.true_and Option.getD_some Option.getD_none imp_self implies_true Int.toNat_natCast List.cons_append List.nil_append List.map_cons List.map_nil List.length_cons List.length_nil List.getD_cons_zero List.getD_cons_succ List.drop_zero List.drop_succ_cons List.take_succ_cons List.take_zero
attribute [local go_sem] isE isO stpO notIn St.bare evO evDO isEff stp St.get St.slot St.put List.lookup un unL ofVal gof nth pickV pkB_false pkB_true binV unV loadV idxV fldV partV buildV fillV lenV sliV appV appR rowsV winV V.parts V.okp V.sc Mem.look_cons Mem.look_nil V.cl V.clL AObj.clo fzAll exps St.fz Mem.fz V.fz V.fzL AObj.fz Option.isSome_some Option.isSome_none Bool.or_true Bool.true_or Bool.or_false Bool.false_or false_and and_false false_or or_false arT_22 arT_23 arT_24 arT_27 arT_34 arT_35 arT_50 arT_59 arT_61 arT_64 arT_65 arT_68 boolT_24 boolT_3 boolT_38 boolT_4 boolT_79 flatT_24 flatT_3 flatT_38 flatT_4 flatT_79 intT_3 intT_93 lay_23 lay_24 lay_26 lay_27 lay_29 lay_3 lay_32 lay_35 lay_37 lay_4 lay_59 lay_68 lay_70 lay_79 lay_82 lay_88 okF_10 okF_11 okF_12 okF_13 okF_14 okF_15 okF_16 okF_17 okF_18 okF_19 okF_20 okF_21 okF_22 okF_23 okF_24 okF_25 okF_26 okF_27 okF_28 okF_29 okF_3 okF_30 okF_31 okF_32 okF_33 okF_34 okF_35 okF_36 okF_37 okF_38 okF_39 okF_4 okF_40 okF_41 okF_42 okF_43 okF_44 okF_45 okF_46 okF_47 okF_48 okF_49 okF_5 okF_50 okF_51 okF_52 okF_53 okF_54 okF_55 okF_56 okF_57 okF_58 okF_59 okF_6 okF_60 okF_61 okF_62 okF_63 okF_64 okF_65 okF_66 okF_67 okF_68 okF_69 okF_7 okF_70 okF_71 okF_72 okF_73 okF_74 okF_75 okF_8 okF_9 plT_26 plT_29 plT_37 plT_70 plT_79 slT_22 slT_23 slT_24 slT_27 slT_34 slT_35 slT_50 slT_59 slT_61 slT_64 slT_65 slT_68 stT_26_0 stT_26_1 stT_26_2 stT_26_3 stT_26_4 stT_26_5 stT_29_0 stT_29_1 stT_29_2 stT_37_0 stT_37_1 stT_37_2 stT_37_3 stT_70_0 stT_70_1 stT_70_2 stT_70_3 stT_79_0 stT_79_1 zeroT_24 zeroT_26 zeroT_29 zeroT_3 zeroT_32 zeroT_35 zeroT_37 zeroT_59 zeroT_65 zeroT_70 zeroT_79
attribute [local go_sem] List.getElem?_cons_zero List.getElem?_cons_succ List.zip_cons_cons List.zip_nil_left List.zip_nil_right Bool.false_and Bool.and_false List.length_append List.length_set List.length_replicate List.all_cons List.all_nil encI_length encI_getD encR_length encR_getD encRw encPg spl shp AObj.shp rowM isSt isRpS isRd csh AObj.csh forall_const imp_self
attribute [local simp] encI_length encR_length
theorem c71 (x : Int) : CallsA Try.prog 71 [.int .i64 x] (.bool false) := by
  have hq : True := trivial
  refine callsA_of_tr Try.func71 rfl (Nat.le_of_ble_eq_true rfl) ?_
  simp only [Try.results71, envOf, Nat.reduceAdd]
  refine tr_seq fun K1 hK1 => ?_
  refine tr_region [0] rfl rfl fun K hK => ?_
  refine evR_p ?_
  refine evR_e hK ?_; clear hK K
  refine hK1 _ ?_
  refine tr_seq fun K2 hK2 => ?_
  refine tr_region [2] rfl rfl fun K hK => ?_
  iterate 4 refine evR_p ?_
  refine evR_e hK ?_; clear hK K
  refine hK2 _ ?_
  refine tr_ret ?_
  (try simp only [thenE, inBlkE])
  simp (maxSteps := 4000000) (disch := first | assumption | omega | (simp only [go_sem, *]; done) | (simp only [go_sem, *]; omega)) only [postA, postO, resV1, fzAll, go_sem, hq, Int.reduceToNat, Nat.reduceBEq, Nat.reduceEqDiff, Nat.reduceAdd, Nat.reduceMul, Nat.reduceLeDiff, Nat.reduceLT, Nat.reduceSub, ↓reduceIte, reduceCtorEq]
  all_goals (simp)

theorem c74 (x : Int) : CallsA Try.prog 74 [.int .i64 x] (.bool false) := by
  have hq : True := trivial
  refine callsA_of_tr Try.func74 rfl (Nat.le_of_ble_eq_true rfl) ?_
  simp only [Try.results74, envOf, Nat.reduceAdd]
  refine tr_seq fun K1 hK1 => ?_
  refine tr_region [0] rfl rfl fun K hK => ?_
  refine evR_p ?_
  refine evR_e hK ?_; clear hK K
  refine hK1 _ ?_
  refine tr_seq fun K2 hK2 => ?_
  refine tr_region [2] rfl rfl fun K hK => ?_
  iterate 4 refine evR_p ?_
  refine evR_e hK ?_; clear hK K
  refine hK2 _ ?_
  refine tr_ret ?_
  (try simp only [thenE, inBlkE])
  simp (maxSteps := 4000000) (disch := first | assumption | omega | (simp only [go_sem, *]; done) | (simp only [go_sem, *]; omega)) only [postA, postO, resV1, fzAll, go_sem, hq, Int.reduceToNat, Nat.reduceBEq, Nat.reduceEqDiff, Nat.reduceAdd, Nat.reduceMul, Nat.reduceLeDiff, Nat.reduceLT, Nat.reduceSub, ↓reduceIte, reduceCtorEq]
  all_goals (simp)

theorem c70 (x y : Int) : CallsA Try.prog 70 [.int .i64 x, .int .i64 y] (.bool (decide (x < y))) := by
  have hq : True := trivial
  refine callsA_of_tr Try.func70 rfl (Nat.le_of_ble_eq_true rfl) ?_
  simp only [Try.results70, envOf, Nat.reduceAdd]
  refine tr_seq fun K1 hK1 => ?_
  refine tr_region [0, 1] rfl rfl fun K hK => ?_
  refine evR_p ?_
  refine evR_e hK ?_; clear hK K
  refine hK1 _ ?_
  refine tr_seq fun K2 hK2 => ?_
  refine tr_region [4] rfl rfl fun K hK => ?_
  refine evR_p ?_
  refine evR_c (hc := (c74 _)) (k := ?_)
  refine evR_p ?_
  refine evR_g ?_
  refine evR_gc (hc := (c74 _)) (k := ?_)
  refine evR_g ?_
  iterate 2 refine evR_p ?_
  iterate 3 refine evR_g ?_
  iterate 2 refine evR_p ?_
  refine evR_e hK ?_; clear hK K
  refine hK2 _ ?_
  refine tr_ret ?_
  (try simp only [thenE, inBlkE])
  simp (maxSteps := 4000000) (disch := first | assumption | omega | (simp only [go_sem, *]; done) | (simp only [go_sem, *]; omega)) only [postA, postO, resV1, fzAll, go_sem, hq, Int.reduceToNat, Nat.reduceBEq, Nat.reduceEqDiff, Nat.reduceAdd, Nat.reduceMul, Nat.reduceLeDiff, Nat.reduceLT, Nat.reduceSub, ↓reduceIte, reduceCtorEq]
  all_goals (simp)

theorem c57 (l : List Int) (t : Int) (hs : srt l) (hm : l.length ≤ 1000) : CallsA Try.prog 57 [.sl 1 (encI l), .int .i64 t] (.tup [.int .i64 (cntL l t : Nat), .bool (decide (t ∈ l))]) := by
  have hq : True := trivial
  refine callsA_of_tr Try.func57 rfl (Nat.le_of_ble_eq_true rfl) ?_
  simp only [Try.results57, envOf, Nat.reduceAdd]
  refine tr_seq fun K1 hK1 => ?_
  refine tr_region [0, 1] rfl rfl fun K hK => ?_
  iterate 2 refine evR_p ?_
  refine evR_e hK ?_; clear hK K
  refine hK1 _ ?_
  refine tr_seq fun K2 hK2 => ?_
  refine tr_region [0, 1, 6] rfl rfl fun K hK => ?_
  iterate 3 refine evR_p ?_
  refine evR_e hK ?_; clear hK K
  refine hK2 _ ?_
  refine tr_seq fun K3 hK3 => ?_
  refine tr_region [0, 1, 6, 7, 8] rfl rfl fun K hK => ?_
  iterate 3 refine evR_p ?_
  refine evR_e hK ?_; clear hK K
  refine hK3 _ ?_
  refine tr_seq fun K4 hK4 => ?_
  refine tr_block ?_
  -- loop 1: live [0, 1, 6, 7, 8]
  refine tr_loopW (fun m σ => ∃ i j : Nat, j = i + m ∧ j ≤ l.length ∧ (∀ k, k < i → l.getD k 0 < t) ∧ (∀ k, j ≤ k → k < l.length → t ≤ l.getD k 0) ∧ σ = ⟨[(0, .sl 1 (encI l)), (1, .int .i64 t), (6, .int .i64 l.length), (7, .int .i64 (i : Nat)), (8, .int .i64 (j : Nat))], [], 0⟩) (l.length) ?_ ?_
  · exact ⟨_, Wk.refl _, 0, l.length, by omega, Nat.le_refl _, (by intro k hk; omega), (by intro k hk hl; omega), rfl⟩
  · rintro m σ ⟨i, j, hj, hjl, hlo, hhi, rfl⟩ KL1 hKL1
    refine tr_seq fun K5 hK5 => ?_
    refine tr_seq fun K6 hK6 => ?_
    refine tr_region [0, 1, 6, 7, 8, 15] rfl rfl fun K hK => ?_
    iterate 3 refine evR_p ?_
    refine evR_e hK ?_; clear hK K
    refine hK6 _ ?_
    refine tr_condB (fun ht1 => ?_) (fun ht1 => ?_)
    · skip
      have hij : i < j := by omega
      obtain ⟨hw1, hw2, hw3, hw4⟩ := mid_u (i := i) (j := j) (by omega)
      have hml : (i + j) / 2 < l.length := by omega
      have hms : i ≤ (i + j) / 2 ∧ (i + j) / 2 < j := by omega
      replace hq := And.intro hq (And.intro hw1 (And.intro hw2 (And.intro hw3 (And.intro hw4 (hml)))))
      refine tr_skip ?_
      (try simp only [thenE, inBlkE])
      refine hK5 _ ?_
      refine tr_block ?_
      refine tr_seq fun K7 hK7 => ?_
      refine tr_region [0, 1, 6, 7, 8, 9] rfl rfl fun K hK => ?_
      iterate 7 refine evR_p ?_
      refine evR_e hK ?_; clear hK K
      refine hK7 _ ?_
      refine tr_seq fun K8 hK8 => ?_
      refine tr_region [0, 1, 6, 7, 8, 9, 27] rfl rfl fun K hK => ?_
      iterate 5 refine evR_p ?_
      refine evR_c (hc := (c70 _ _)) (k := ?_)
      refine evR_e hK ?_; clear hK K
      refine hK8 _ ?_
      refine tr_condB (fun ht2 => ?_) (fun ht2 => ?_)
      · skip
        refine tr_region [0, 1, 6, 7, 8] rfl rfl fun K hK => ?_
        iterate 3 refine evR_p ?_
        refine evR_e hK ?_; clear hK K
        refine hKL1 _ ?_
        first
          | exact ⟨j - ((i + j) / 2 + 1), _, by omega, Wk.refl _, (i + j) / 2 + 1, j, by omega, hjl, (fun k hk => Int.lt_of_le_of_lt (srt_le hs (by omega) hml) (by assumption)), hhi, by rw [w64 (x := (((i + j) / 2 : Nat) : Int) + 1) (by omega)]; rfl⟩
          | exact ⟨(i + j) / 2 - i, _, by omega, Wk.refl _, i, (i + j) / 2, by omega, by omega, hlo, (fun k hk hkl => Int.le_trans (Int.not_lt.1 (by assumption)) (srt_le hs hk hkl)), rfl⟩
      · skip
        refine tr_region [0, 1, 6, 7, 8] rfl rfl fun K hK => ?_
        iterate 2 refine evR_p ?_
        refine evR_e hK ?_; clear hK K
        refine hKL1 _ ?_
        first
          | exact ⟨j - ((i + j) / 2 + 1), _, by omega, Wk.refl _, (i + j) / 2 + 1, j, by omega, hjl, (fun k hk => Int.lt_of_le_of_lt (srt_le hs (by omega) hml) (by assumption)), hhi, by rw [w64 (x := (((i + j) / 2 : Nat) : Int) + 1) (by omega)]; rfl⟩
          | exact ⟨(i + j) / 2 - i, _, by omega, Wk.refl _, i, (i + j) / 2, by omega, by omega, hlo, (fun k hk hkl => Int.le_trans (Int.not_lt.1 (by assumption)) (srt_le hs hk hkl)), rfl⟩
    · skip
      have hij : m = 0 := by omega
      subst hij
      refine tr_exit ?_
      simp only [thenE, inBlkE, Nat.reduceEqDiff, ↓reduceIte]
      refine hK4 _ ?_
      refine tr_seq fun K9 hK9 => ?_
      refine tr_region [4, 5] rfl rfl fun K hK => ?_
      iterate 5 refine evR_p ?_
      iterate 11 refine evR_g ?_
      refine evR_gc (hc := (c71 _)) (k := ?_)
      iterate 2 refine evR_g ?_
      refine evR_gc (hc := (c71 _)) (k := ?_)
      iterate 2 refine evR_g ?_
      iterate 3 refine evR_p ?_
      refine evR_e hK ?_; clear hK K
      refine hK9 _ ?_
      refine tr_ret ?_
      (try simp only [thenE, inBlkE])
      simp (maxSteps := 4000000) (disch := first | assumption | omega | (simp only [go_sem, *]; done) | (simp only [go_sem, *]; omega)) only [postA, postO, resV1, fzAll, go_sem, hq, Int.reduceToNat, Nat.reduceBEq, Nat.reduceEqDiff, Nat.reduceAdd, Nat.reduceMul, Nat.reduceLeDiff, Nat.reduceLT, Nat.reduceSub, ↓reduceIte, reduceCtorEq]
      all_goals (exact bs_res hs (by omega) (by omega) hlo hhi)

end Go.Proofs.Ytcphhbiehaimeaa

