import Derived.Test.YtcphhbiehaimeaaF23
import Derived.Test.YtcphhbiehaimeaaAi24
import Derived.Test.YtcphhbiehaimeaaP23
namespace Go.Proofs.Ytcphhbiehaimeaa
open Go.RowKit
set_option linter.unusedVariables false
set_option linter.unusedSimpArgs false
set_option maxRecDepth 100000
attribute [local go_sem] Nat.zero_add Nat.add_zero Nat.mul_one eq_self ne_eq not_true_eq_false not_false_eq_true decide_true decide_false decide_not Bool.false_eq_true List.filter_cons List.filter_nil true_and and_true beq_false beq_true Bool.not_true Bool.not_false Bool.and_true Bool.true_and Option.getD_some Option.getD_none imp_self implies_true Int.toNat_natCast List.cons_append List.nil_append List.map_cons List.map_nil List.length_cons List.length_nil List.getD_cons_zero List.getD_cons_succ List.drop_zero List.drop_succ_cons List.take_succ_cons List.take_zero
attribute [local go_sem] isE isO stpO notIn St.bare evO evDO isEff stp St.get St.slot St.put List.lookup un unL ofVal gof nth pickV pkB_false pkB_true binV unV loadV idxV fldV partV buildV fillV lenV sliV appV appR rowsV winV V.parts V.okp V.sc Mem.look_cons Mem.look_nil V.cl V.clL AObj.clo fzAll exps St.fz Mem.fz V.fz V.fzL AObj.fz Option.isSome_some Option.isSome_none Bool.or_true Bool.true_or Bool.or_false Bool.false_or false_and and_false false_or or_false arT_22 arT_23 arT_24 arT_27 arT_34 arT_35 arT_50 arT_59 arT_61 arT_64 arT_65 arT_68 boolT_24 boolT_3 boolT_38 boolT_4 boolT_79 flatT_24 flatT_3 flatT_38 flatT_4 flatT_79 intT_3 intT_93 lay_23 lay_24 lay_26 lay_27 lay_29 lay_3 lay_32 lay_35 lay_37 lay_4 lay_59 lay_68 lay_70 lay_79 lay_82 lay_88 okF_10 okF_11 okF_12 okF_13 okF_14 okF_15 okF_16 okF_17 okF_18 okF_19 okF_20 okF_21 okF_22 okF_23 okF_24 okF_25 okF_26 okF_27 okF_28 okF_29 okF_3 okF_30 okF_31 okF_32 okF_33 okF_34 okF_35 okF_36 okF_37 okF_38 okF_39 okF_4 okF_40 okF_41 okF_42 okF_43 okF_44 okF_45 okF_46 okF_47 okF_48 okF_49 okF_5 okF_50 okF_51 okF_52 okF_53 okF_54 okF_55 okF_56 okF_57 okF_58 okF_59 okF_6 okF_60 okF_61 okF_62 okF_63 okF_64 okF_65 okF_66 okF_67 okF_68 okF_69 okF_7 okF_70 okF_71 okF_72 okF_73 okF_74 okF_75 okF_8 okF_9 plT_26 plT_29 plT_37 plT_70 plT_79 slT_22 slT_23 slT_24 slT_27 slT_34 slT_35 slT_50 slT_59 slT_61 slT_64 slT_65 slT_68 stT_26_0 stT_26_1 stT_26_2 stT_26_3 stT_26_4 stT_26_5 stT_29_0 stT_29_1 stT_29_2 stT_37_0 stT_37_1 stT_37_2 stT_37_3 stT_70_0 stT_70_1 stT_70_2 stT_70_3 stT_79_0 stT_79_1 zeroT_24 zeroT_26 zeroT_29 zeroT_3 zeroT_32 zeroT_35 zeroT_37 zeroT_59 zeroT_65 zeroT_70 zeroT_79
attribute [local go_sem] List.getElem?_cons_zero List.getElem?_cons_succ List.zip_cons_cons List.zip_nil_left List.zip_nil_right Bool.false_and Bool.and_false List.length_append List.length_set List.length_replicate List.all_cons List.all_nil encI_length encI_getD encR_length encR_getD encRw encPg spl shp AObj.shp rowM isSt isRpS isRd csh AObj.csh forall_const imp_self
attribute [local simp] encI_length encR_length
theorem c12 (c n : Int) (hn : 0 < n) : CallsA Try.prog 12 [.int .i64 c, .int .i64 n] (.int .i64 (pickW c n)) := by
  have hq : True := trivial
  refine callsA_of_tr Try.func12 rfl (Nat.le_of_ble_eq_true rfl) ?_
  simp only [Try.results12, envOf, Nat.reduceAdd]
  refine tr_seq fun K1 hK1 => ?_
  refine tr_region [0, 1] rfl rfl fun K hK => ?_
  refine evR_p ?_
  refine evR_e hK ?_; clear hK K
  refine hK1 _ ?_
  refine tr_seq fun K2 hK2 => ?_
  refine tr_seq fun K3 hK3 => ?_
  refine tr_region [0, 1, 6] rfl rfl fun K hK => ?_
  iterate 2 refine evR_p ?_
  refine evR_e hK ?_; clear hK K
  refine hK3 _ ?_
  refine tr_condB (fun ht1 => ?_) (fun ht1 => ?_)
  · skip
    refine tr_region [0, 1] rfl rfl fun K hK => ?_
    iterate 4 refine evR_p ?_
    refine evR_e hK ?_; clear hK K
    refine hK2 _ ?_
    refine tr_seq fun K4 hK4 => ?_
    refine tr_region [4] rfl rfl fun K hK => ?_
    iterate 4 refine evR_p ?_
    refine evR_e hK ?_; clear hK K
    refine hK4 _ ?_
    refine tr_ret ?_
    (try simp only [thenE, inBlkE])
    simp (maxSteps := 4000000) (disch := first | assumption | omega | (simp only [go_sem, *]; done) | (simp only [go_sem, *]; omega)) only [postA, postO, resV1, fzAll, go_sem, hq, Int.reduceToNat, Nat.reduceBEq, Nat.reduceEqDiff, Nat.reduceAdd, Nat.reduceMul, Nat.reduceLeDiff, Nat.reduceLT, Nat.reduceSub, ↓reduceIte, reduceCtorEq]
    all_goals (simp [pickW, *])
  · skip
    refine tr_skip ?_
    (try simp only [thenE, inBlkE])
    refine hK2 _ ?_
    refine tr_seq fun K5 hK5 => ?_
    refine tr_region [4] rfl rfl fun K hK => ?_
    iterate 4 refine evR_p ?_
    refine evR_e hK ?_; clear hK K
    refine hK5 _ ?_
    refine tr_ret ?_
    (try simp only [thenE, inBlkE])
    simp (maxSteps := 4000000) (disch := first | assumption | omega | (simp only [go_sem, *]; done) | (simp only [go_sem, *]; omega)) only [postA, postO, resV1, fzAll, go_sem, hq, Int.reduceToNat, Nat.reduceBEq, Nat.reduceEqDiff, Nat.reduceAdd, Nat.reduceMul, Nat.reduceLeDiff, Nat.reduceLT, Nat.reduceSub, ↓reduceIte, reduceCtorEq]
    all_goals (simp [pickW, *])

theorem c37 (c n : Int) (hn : 0 < n) : CallsA Try.prog 37 [.int .i64 c, .int .i64 n] (.int .i64 (pickW c n)) := by
  have hq : True := trivial
  refine callsA_of_tr Try.func37 rfl (Nat.le_of_ble_eq_true rfl) ?_
  simp only [Try.results37, envOf, Nat.reduceAdd]
  refine tr_seq fun K1 hK1 => ?_
  refine tr_region [0, 1] rfl rfl fun K hK => ?_
  refine evR_p ?_
  refine evR_e hK ?_; clear hK K
  refine hK1 _ ?_
  refine tr_seq fun K2 hK2 => ?_
  refine tr_seq fun K3 hK3 => ?_
  refine tr_region [0, 1, 6] rfl rfl fun K hK => ?_
  iterate 2 refine evR_p ?_
  refine evR_e hK ?_; clear hK K
  refine hK3 _ ?_
  refine tr_condB (fun ht1 => ?_) (fun ht1 => ?_)
  · skip
    refine tr_region [0, 1] rfl rfl fun K hK => ?_
    iterate 4 refine evR_p ?_
    refine evR_e hK ?_; clear hK K
    refine hK2 _ ?_
    refine tr_seq fun K4 hK4 => ?_
    refine tr_region [4] rfl rfl fun K hK => ?_
    iterate 4 refine evR_p ?_
    refine evR_e hK ?_; clear hK K
    refine hK4 _ ?_
    refine tr_ret ?_
    (try simp only [thenE, inBlkE])
    simp (maxSteps := 4000000) (disch := first | assumption | omega | (simp only [go_sem, *]; done) | (simp only [go_sem, *]; omega)) only [postA, postO, resV1, fzAll, go_sem, hq, Int.reduceToNat, Nat.reduceBEq, Nat.reduceEqDiff, Nat.reduceAdd, Nat.reduceMul, Nat.reduceLeDiff, Nat.reduceLT, Nat.reduceSub, ↓reduceIte, reduceCtorEq]
    all_goals (simp [pickW, *])
  · skip
    refine tr_skip ?_
    (try simp only [thenE, inBlkE])
    refine hK2 _ ?_
    refine tr_seq fun K5 hK5 => ?_
    refine tr_region [4] rfl rfl fun K hK => ?_
    iterate 4 refine evR_p ?_
    refine evR_e hK ?_; clear hK K
    refine hK5 _ ?_
    refine tr_ret ?_
    (try simp only [thenE, inBlkE])
    simp (maxSteps := 4000000) (disch := first | assumption | omega | (simp only [go_sem, *]; done) | (simp only [go_sem, *]; omega)) only [postA, postO, resV1, fzAll, go_sem, hq, Int.reduceToNat, Nat.reduceBEq, Nat.reduceEqDiff, Nat.reduceAdd, Nat.reduceMul, Nat.reduceLeDiff, Nat.reduceLT, Nat.reduceSub, ↓reduceIte, reduceCtorEq]
    all_goals (simp [pickW, *])

theorem c49 (n lo hi : Int) : CallsA Try.prog 49 [.int .i64 n, .int .i64 lo, .int .i64 hi] (.bool (isInB n lo hi)) := by
  have hq : True := trivial
  refine callsA_of_tr Try.func49 rfl (Nat.le_of_ble_eq_true rfl) ?_
  simp only [Try.results49, envOf, Nat.reduceAdd]
  refine tr_seq fun K1 hK1 => ?_
  refine tr_region [0, 1, 2] rfl rfl fun K hK => ?_
  refine evR_p ?_
  refine evR_e hK ?_; clear hK K
  refine hK1 _ ?_
  refine tr_seq fun K2 hK2 => ?_
  refine tr_region [6] rfl rfl fun K hK => ?_
  iterate 4 refine evR_p ?_
  iterate 3 refine evR_g ?_
  iterate 2 refine evR_p ?_
  refine evR_e hK ?_; clear hK K
  refine hK2 _ ?_
  refine tr_ret ?_
  (try simp only [thenE, inBlkE])
  simp (maxSteps := 4000000) (disch := first | assumption | omega | (simp only [go_sem, *]; done) | (simp only [go_sem, *]; omega)) only [postA, postO, resV1, fzAll, go_sem, hq, Int.reduceToNat, Nat.reduceBEq, Nat.reduceEqDiff, Nat.reduceAdd, Nat.reduceMul, Nat.reduceLeDiff, Nat.reduceLT, Nat.reduceSub, ↓reduceIte, reduceCtorEq]
  all_goals (simp [isInB])

theorem c39 (l : List Int) (set : Int) (hm : l.length ≤ maxLen) : CallsA Try.prog 39 [.sl 1 (encI l), .int .i64 set] (.int .i64 (chosenW l set)) := by
  unfold maxLen at hm
  have hq : True := trivial
  refine callsA_of_tr Try.func39 rfl (Nat.le_of_ble_eq_true rfl) ?_
  simp only [Try.results39, envOf, Nat.reduceAdd]
  refine tr_seq fun K1 hK1 => ?_
  refine tr_region [0, 1] rfl rfl fun K hK => ?_
  refine evR_p ?_
  refine evR_e hK ?_; clear hK K
  refine hK1 _ ?_
  refine tr_seq fun K2 hK2 => ?_
  refine tr_region [0, 1, 5] rfl rfl fun K hK => ?_
  refine evR_p ?_
  refine evR_e hK ?_; clear hK K
  refine hK2 _ ?_
  refine tr_seq fun K3 hK3 => ?_
  refine tr_seq fun K4 hK4 => ?_
  refine tr_region [1, 5, 8, 9, 10] rfl rfl fun K hK => ?_
  iterate 3 refine evR_p ?_
  refine evR_e hK ?_; clear hK K
  refine hK4 _ ?_
  refine tr_block ?_
  -- loop 1: live [1, 5, 8, 9, 10]
  refine tr_loopW (fun m σ => ∃ i, i + m = l.length ∧ σ = ⟨[(1, .int .i64 set), (5, .int .i64 (chosenG l set i)), (8, .sl 1 (encI l)), (9, .int .i64 l.length), (10, .int .i64 (i : Nat))], [], 0⟩) (l.length) ?_ ?_
  · exact ⟨_, Wk.refl _, 0, by omega, rfl⟩
  · rintro m σ ⟨i, hi, rfl⟩ KL1 hKL1
    refine tr_seq fun K5 hK5 => ?_
    refine tr_region [1, 5, 8, 9, 10, 11] rfl rfl fun K hK => ?_
    refine evR_p ?_
    refine evR_e hK ?_; clear hK K
    refine hK5 _ ?_
    refine tr_seq fun K6 hK6 => ?_
    refine tr_condB (fun ht1 => ?_) (fun ht1 => ?_)
    · skip
      have hil : i < l.length := by omega
      replace hq := And.intro hq (hil)
      refine tr_skip ?_
      (try simp only [thenE, inBlkE])
      refine hK6 _ ?_
      refine tr_seq fun K7 hK7 => ?_
      refine tr_block ?_
      refine tr_seq fun K8 hK8 => ?_
      refine tr_region [1, 5, 6, 7, 8, 9, 10] rfl rfl fun K hK => ?_
      iterate 5 refine evR_p ?_
      refine evR_e hK ?_; clear hK K
      refine hK8 _ ?_
      refine tr_seq fun K9 hK9 => ?_
      refine tr_region [1, 5, 7, 8, 9, 10, 19] rfl rfl fun K hK => ?_
      iterate 5 refine evR_p ?_
      refine evR_e hK ?_; clear hK K
      refine hK9 _ ?_
      refine tr_condB (fun ht2 => ?_) (fun ht2 => ?_)
      · skip
        refine tr_region [1, 5, 8, 9, 10] rfl rfl fun K hK => ?_
        iterate 4 refine evR_p ?_
        refine evR_e hK ?_; clear hK K
        refine hK7 _ ?_
        refine tr_region [1, 5, 8, 9, 10] rfl rfl fun K hK => ?_
        iterate 2 refine evR_p ?_
        refine evR_e hK ?_; clear hK K
        refine hKL1 _ ?_
        exact ⟨m - 1, _, by omega, Wk.refl _, i + 1, by omega, by first | (rw [w64 (x := (i : Int) + 1) (by omega), chosenG_t (by simp only [cBit, *]; decide)]; rfl) | (rw [w64 (x := (i : Int) + 1) (by omega), chosenG_f (by simp only [cBit, decide_eq_false_iff_not, *]; first | assumption | simp)]; rfl)⟩
      · skip
        refine tr_skip ?_
        (try simp only [thenE, inBlkE])
        refine hK7 _ ?_
        refine tr_region [1, 5, 8, 9, 10] rfl rfl fun K hK => ?_
        iterate 2 refine evR_p ?_
        refine evR_e hK ?_; clear hK K
        refine hKL1 _ ?_
        exact ⟨m - 1, _, by omega, Wk.refl _, i + 1, by omega, by first | (rw [w64 (x := (i : Int) + 1) (by omega), chosenG_t (by simp only [cBit, *]; decide)]; rfl) | (rw [w64 (x := (i : Int) + 1) (by omega), chosenG_f (by simp only [cBit, decide_eq_false_iff_not, *]; first | assumption | simp)]; rfl)⟩
    · skip
      have hil : i = l.length := by omega
      subst hil
      refine tr_exit ?_
      simp only [thenE, inBlkE, Nat.reduceEqDiff, ↓reduceIte]
      refine hK3 _ ?_
      refine tr_seq fun K10 hK10 => ?_
      refine tr_region [4] rfl rfl fun K hK => ?_
      iterate 2 refine evR_p ?_
      refine evR_e hK ?_; clear hK K
      refine hK10 _ ?_
      refine tr_ret ?_
      (try simp only [thenE, inBlkE])
      simp (maxSteps := 4000000) (disch := first | assumption | omega | (simp only [go_sem, *]; done) | (simp only [go_sem, *]; omega)) only [postA, postO, resV1, fzAll, go_sem, hq, Int.reduceToNat, Nat.reduceBEq, Nat.reduceEqDiff, Nat.reduceAdd, Nat.reduceMul, Nat.reduceLeDiff, Nat.reduceLT, Nat.reduceSub, ↓reduceIte, reduceCtorEq]
      all_goals (rfl)

theorem c75 (xs : List Int) (f : FuncId) (caps : List V) (p : Int → Bool) (hf : okF Try.prog f = true) (hcl : V.clL caps = true) (hp : ∀ x ∈ xs, CallsA Try.prog f (.int .i64 x :: caps) (.bool (p x))) (hm : xs.length ≤ maxLen) : CallsA Try.prog 75 [.sl 1 (encI xs), .fn f caps] (.int .i64 (idxOf p xs)) := by
  unfold maxLen at hm
  have hq := hcl
  refine callsA_of_tr Try.func75 rfl (Nat.le_of_ble_eq_true rfl) ?_
  simp only [Try.results75, envOf, Nat.reduceAdd]
  refine tr_seq fun K1 hK1 => ?_
  refine tr_region [0, 1] rfl rfl fun K hK => ?_
  refine evR_p ?_
  refine evR_e hK ?_; clear hK K
  refine hK1 _ ?_
  refine tr_seq fun K2 hK2 => ?_
  refine tr_seq fun K3 hK3 => ?_
  refine tr_region [0, 1, 7, 8] rfl rfl fun K hK => ?_
  iterate 3 refine evR_p ?_
  refine evR_e hK ?_; clear hK K
  refine hK3 _ ?_
  refine tr_block ?_
  -- loop 1: live [0, 1, 7, 8]
  refine tr_loopW (fun m σ => ∃ i, i + m = xs.length ∧ (∀ j, j < i → p (xs.getD j 0) = false) ∧ σ = ⟨[(0, .sl 1 (encI xs)), (1, .fn f caps), (7, .int .i64 xs.length), (8, .int .i64 (i : Nat))], [], 0⟩) (xs.length) ?_ ?_
  · exact ⟨_, Wk.refl _, 0, by omega, (by intro j hj; omega), rfl⟩
  · rintro m σ ⟨i, hi, hpi, rfl⟩ KL1 hKL1
    refine tr_seq fun K4 hK4 => ?_
    refine tr_region [0, 1, 7, 8, 9] rfl rfl fun K hK => ?_
    refine evR_p ?_
    refine evR_e hK ?_; clear hK K
    refine hK4 _ ?_
    refine tr_seq fun K5 hK5 => ?_
    refine tr_condB (fun ht1 => ?_) (fun ht1 => ?_)
    · skip
      have hil : i < xs.length := by omega
      replace hq := And.intro hq (hil)
      refine tr_skip ?_
      (try simp only [thenE, inBlkE])
      refine hK5 _ ?_
      refine tr_seq fun K6 hK6 => ?_
      refine tr_block ?_
      refine tr_seq fun K7 hK7 => ?_
      refine tr_region [0, 1, 5, 7, 8] rfl rfl fun K hK => ?_
      iterate 2 refine evR_p ?_
      refine evR_e hK ?_; clear hK K
      refine hK7 _ ?_
      refine tr_seq fun K8 hK8 => ?_
      refine tr_region [0, 1, 5, 7, 8, 16] rfl rfl fun K hK => ?_
      iterate 5 refine evR_p ?_
      refine evR_c (hc := (hp _ (getD_mem hil))) (k := ?_)
      refine evR_e hK ?_; clear hK K
      refine hK8 _ ?_
      refine tr_condB (fun ht2 => ?_) (fun ht2 => ?_)
      · skip
        refine tr_seq fun K9 hK9 => ?_
        refine tr_region [4] rfl rfl fun K hK => ?_
        iterate 2 refine evR_p ?_
        refine evR_e hK ?_; clear hK K
        refine hK9 _ ?_
        refine tr_ret ?_
        (try simp only [thenE, inBlkE])
        simp (maxSteps := 4000000) (disch := first | assumption | omega | (simp only [go_sem, *]; done) | (simp only [go_sem, *]; omega)) only [postA, postO, resV1, fzAll, go_sem, hq, Int.reduceToNat, Nat.reduceBEq, Nat.reduceEqDiff, Nat.reduceAdd, Nat.reduceMul, Nat.reduceLeDiff, Nat.reduceLT, Nat.reduceSub, ↓reduceIte, reduceCtorEq]
        all_goals (first | (rw [idxOf_at p 0 xs i hil hpi (by assumption)]; done) | (rw [idxOf_none p xs (all_false 0 hpi (by omega))]; done))
      · skip
        refine tr_skip ?_
        (try simp only [thenE, inBlkE])
        refine hK6 _ ?_
        refine tr_region [0, 1, 7, 8] rfl rfl fun K hK => ?_
        iterate 2 refine evR_p ?_
        refine evR_e hK ?_; clear hK K
        refine hKL1 _ ?_
        exact ⟨m - 1, _, by omega, Wk.refl _, i + 1, by omega, step_false hpi (by assumption), by rw [w64 (by omega)]; rfl⟩
    · skip
      have hil : i = xs.length := by omega
      refine tr_exit ?_
      simp only [thenE, inBlkE, Nat.reduceEqDiff, ↓reduceIte]
      refine hK2 _ ?_
      refine tr_seq fun K10 hK10 => ?_
      refine tr_region [4] rfl rfl fun K hK => ?_
      refine evR_p ?_
      refine evR_e hK ?_; clear hK K
      refine hK10 _ ?_
      refine tr_ret ?_
      (try simp only [thenE, inBlkE])
      simp (maxSteps := 4000000) (disch := first | assumption | omega | (simp only [go_sem, *]; done) | (simp only [go_sem, *]; omega)) only [postA, postO, resV1, fzAll, go_sem, hq, Int.reduceToNat, Nat.reduceBEq, Nat.reduceEqDiff, Nat.reduceAdd, Nat.reduceMul, Nat.reduceLeDiff, Nat.reduceLT, Nat.reduceSub, ↓reduceIte, reduceCtorEq]
      all_goals (first | (rw [idxOf_at p 0 xs i hil hpi (by assumption)]; done) | (rw [idxOf_none p xs (all_false 0 hpi (by omega))]; done))

theorem c61 (xs : List Rw) (f : FuncId) (caps : List V) (p : Rw → Bool) (hf : okF Try.prog f = true) (hcl : V.clL caps = true) (hp : ∀ x ∈ xs, CallsA Try.prog f (.agg (encRw x) :: caps) (.bool (p x))) (hm : xs.length ≤ maxLen) : CallsA Try.prog 61 [.sl 6 (encR xs), .fn f caps] (.int .i64 (idxOf p xs)) := by
  unfold maxLen at hm
  have hq := hcl
  refine callsA_of_tr Try.func61 rfl (Nat.le_of_ble_eq_true rfl) ?_
  simp only [Try.results61, envOf, Nat.reduceAdd]
  refine tr_seq fun K1 hK1 => ?_
  refine tr_region [0, 1] rfl rfl fun K hK => ?_
  refine evR_p ?_
  refine evR_e hK ?_; clear hK K
  refine hK1 _ ?_
  refine tr_seq fun K2 hK2 => ?_
  refine tr_seq fun K3 hK3 => ?_
  refine tr_region [0, 1, 7, 8] rfl rfl fun K hK => ?_
  iterate 3 refine evR_p ?_
  refine evR_e hK ?_; clear hK K
  refine hK3 _ ?_
  refine tr_block ?_
  -- loop 1: live [0, 1, 7, 8]
  refine tr_loopW (fun m σ => ∃ i, i + m = xs.length ∧ (∀ j, j < i → p (xs.getD j rw0) = false) ∧ σ = ⟨[(0, .sl 6 (encR xs)), (1, .fn f caps), (7, .int .i64 xs.length), (8, .int .i64 (i : Nat))], [], 0⟩) (xs.length) ?_ ?_
  · exact ⟨_, Wk.refl _, 0, by omega, (by intro j hj; omega), rfl⟩
  · rintro m σ ⟨i, hi, hpi, rfl⟩ KL1 hKL1
    refine tr_seq fun K4 hK4 => ?_
    refine tr_region [0, 1, 7, 8, 9] rfl rfl fun K hK => ?_
    refine evR_p ?_
    refine evR_e hK ?_; clear hK K
    refine hK4 _ ?_
    refine tr_seq fun K5 hK5 => ?_
    refine tr_condB (fun ht1 => ?_) (fun ht1 => ?_)
    · skip
      have hil : i < xs.length := by omega
      replace hq := And.intro hq (hil)
      refine tr_skip ?_
      (try simp only [thenE, inBlkE])
      refine hK5 _ ?_
      refine tr_seq fun K6 hK6 => ?_
      refine tr_block ?_
      refine tr_seq fun K7 hK7 => ?_
      refine tr_region [0, 1, 5, 7, 8] rfl rfl fun K hK => ?_
      iterate 2 refine evR_p ?_
      refine evR_e hK ?_; clear hK K
      refine hK7 _ ?_
      refine tr_seq fun K8 hK8 => ?_
      refine tr_region [0, 1, 5, 7, 8, 16] rfl rfl fun K hK => ?_
      iterate 5 refine evR_p ?_
      refine evR_c (hc := (hp _ (getD_mem hil))) (k := ?_)
      refine evR_e hK ?_; clear hK K
      refine hK8 _ ?_
      refine tr_condB (fun ht2 => ?_) (fun ht2 => ?_)
      · skip
        refine tr_seq fun K9 hK9 => ?_
        refine tr_region [4] rfl rfl fun K hK => ?_
        iterate 2 refine evR_p ?_
        refine evR_e hK ?_; clear hK K
        refine hK9 _ ?_
        refine tr_ret ?_
        (try simp only [thenE, inBlkE])
        simp (maxSteps := 4000000) (disch := first | assumption | omega | (simp only [go_sem, *]; done) | (simp only [go_sem, *]; omega)) only [postA, postO, resV1, fzAll, go_sem, hq, Int.reduceToNat, Nat.reduceBEq, Nat.reduceEqDiff, Nat.reduceAdd, Nat.reduceMul, Nat.reduceLeDiff, Nat.reduceLT, Nat.reduceSub, ↓reduceIte, reduceCtorEq]
        all_goals (first | (rw [idxOf_at p rw0 xs i hil hpi (by assumption)]; done) | (rw [idxOf_none p xs (all_false rw0 hpi (by omega))]; done))
      · skip
        refine tr_skip ?_
        (try simp only [thenE, inBlkE])
        refine hK6 _ ?_
        refine tr_region [0, 1, 7, 8] rfl rfl fun K hK => ?_
        iterate 2 refine evR_p ?_
        refine evR_e hK ?_; clear hK K
        refine hKL1 _ ?_
        exact ⟨m - 1, _, by omega, Wk.refl _, i + 1, by omega, step_false hpi (by assumption), by rw [w64 (by omega)]; rfl⟩
    · skip
      have hil : i = xs.length := by omega
      refine tr_exit ?_
      simp only [thenE, inBlkE, Nat.reduceEqDiff, ↓reduceIte]
      refine hK2 _ ?_
      refine tr_seq fun K10 hK10 => ?_
      refine tr_region [4] rfl rfl fun K hK => ?_
      refine evR_p ?_
      refine evR_e hK ?_; clear hK K
      refine hK10 _ ?_
      refine tr_ret ?_
      (try simp only [thenE, inBlkE])
      simp (maxSteps := 4000000) (disch := first | assumption | omega | (simp only [go_sem, *]; done) | (simp only [go_sem, *]; omega)) only [postA, postO, resV1, fzAll, go_sem, hq, Int.reduceToNat, Nat.reduceBEq, Nat.reduceEqDiff, Nat.reduceAdd, Nat.reduceMul, Nat.reduceLeDiff, Nat.reduceLT, Nat.reduceSub, ↓reduceIte, reduceCtorEq]
      all_goals (first | (rw [idxOf_at p rw0 xs i hil hpi (by assumption)]; done) | (rw [idxOf_none p xs (all_false rw0 hpi (by omega))]; done))

theorem c72 (xs : List Int) (f : FuncId) (caps : List V) (p : Int → Bool) (hf : okF Try.prog f = true) (hcl : V.clL caps = true) (hp : ∀ x ∈ xs, CallsA Try.prog f (.int .i64 x :: caps) (.bool (p x))) (hm : xs.length ≤ maxLen) : CallsA Try.prog 72 [.sl 1 (encI xs), .fn f caps] (.bool (xs.any p)) := by
  have hq := hcl
  refine callsA_of_tr Try.func72 rfl (Nat.le_of_ble_eq_true rfl) ?_
  simp only [Try.results72, envOf, Nat.reduceAdd]
  refine tr_seq fun K1 hK1 => ?_
  refine tr_region [0, 1] rfl rfl fun K hK => ?_
  refine evR_p ?_
  refine evR_e hK ?_; clear hK K
  refine hK1 _ ?_
  refine tr_seq fun K2 hK2 => ?_
  refine tr_region [4] rfl rfl fun K hK => ?_
  iterate 2 refine evR_p ?_
  refine evR_c (hc := (c75 _ _ _ p hf hcl hp hm)) (k := ?_)
  iterate 2 refine evR_p ?_
  refine evR_e hK ?_; clear hK K
  refine hK2 _ ?_
  refine tr_ret ?_
  (try simp only [thenE, inBlkE])
  simp (maxSteps := 4000000) (disch := first | assumption | omega | (simp only [go_sem, *]; done) | (simp only [go_sem, *]; omega)) only [postA, postO, resV1, fzAll, go_sem, hq, Int.reduceToNat, Nat.reduceBEq, Nat.reduceEqDiff, Nat.reduceAdd, Nat.reduceMul, Nat.reduceLeDiff, Nat.reduceLT, Nat.reduceSub, ↓reduceIte, reduceCtorEq]
  all_goals (simp [idxOf_ge])

theorem c66 (xs : List Rw) (f : FuncId) (caps : List V) (p : Rw → Bool) (hf : okF Try.prog f = true) (hcl : V.clL caps = true) (hp : ∀ x ∈ xs, CallsA Try.prog f (.agg (encRw x) :: caps) (.bool (p x))) (hm : xs.length ≤ maxLen) : CallsA Try.prog 66 [.sl 6 (encR xs), .fn f caps] (.bool (xs.any p)) := by
  have hq := hcl
  refine callsA_of_tr Try.func66 rfl (Nat.le_of_ble_eq_true rfl) ?_
  simp only [Try.results66, envOf, Nat.reduceAdd]
  refine tr_seq fun K1 hK1 => ?_
  refine tr_region [0, 1] rfl rfl fun K hK => ?_
  refine evR_p ?_
  refine evR_e hK ?_; clear hK K
  refine hK1 _ ?_
  refine tr_seq fun K2 hK2 => ?_
  refine tr_region [4] rfl rfl fun K hK => ?_
  iterate 2 refine evR_p ?_
  refine evR_c (hc := (c61 _ _ _ p hf hcl hp hm)) (k := ?_)
  iterate 2 refine evR_p ?_
  refine evR_e hK ?_; clear hK K
  refine hK2 _ ?_
  refine tr_ret ?_
  (try simp only [thenE, inBlkE])
  simp (maxSteps := 4000000) (disch := first | assumption | omega | (simp only [go_sem, *]; done) | (simp only [go_sem, *]; omega)) only [postA, postO, resV1, fzAll, go_sem, hq, Int.reduceToNat, Nat.reduceBEq, Nat.reduceEqDiff, Nat.reduceAdd, Nat.reduceMul, Nat.reduceLeDiff, Nat.reduceLT, Nat.reduceSub, ↓reduceIte, reduceCtorEq]
  all_goals (simp [idxOf_ge])

theorem c73 (x : Int) (f : FuncId) (caps : List V) (b : Bool) (hf : okF Try.prog f = true) (hcl : V.clL caps = true) (hp : CallsA Try.prog f (.int .i64 x :: caps) (.bool b)) : CallsA Try.prog 73 [.int .i64 x, .ep [.fn f caps]] (.bool (!b)) := by
  have hq := hcl
  refine callsA_of_tr Try.func73 rfl (Nat.le_of_ble_eq_true rfl) ?_
  simp only [Try.results73, envOf, Nat.reduceAdd]
  refine tr_seq fun K1 hK1 => ?_
  refine tr_region [0, 1] rfl rfl fun K hK => ?_
  refine evR_p ?_
  refine evR_e hK ?_; clear hK K
  refine hK1 _ ?_
  refine tr_seq fun K2 hK2 => ?_
  refine tr_region [3] rfl rfl fun K hK => ?_
  iterate 2 refine evR_p ?_
  refine evR_c (hc := hp) (k := ?_)
  iterate 2 refine evR_p ?_
  refine evR_e hK ?_; clear hK K
  refine hK2 _ ?_
  refine tr_ret ?_
  (try simp only [thenE, inBlkE])
  simp (maxSteps := 4000000) (disch := first | assumption | omega | (simp only [go_sem, *]; done) | (simp only [go_sem, *]; omega)) only [postA, postO, resV1, fzAll, go_sem, hq, Int.reduceToNat, Nat.reduceBEq, Nat.reduceEqDiff, Nat.reduceAdd, Nat.reduceMul, Nat.reduceLeDiff, Nat.reduceLT, Nat.reduceSub, ↓reduceIte, reduceCtorEq]
  all_goals (skip)

theorem c67 (x : Rw) (f : FuncId) (caps : List V) (b : Bool) (hf : okF Try.prog f = true) (hcl : V.clL caps = true) (hp : CallsA Try.prog f (.agg (encRw x) :: caps) (.bool b)) : CallsA Try.prog 67 [.agg (encRw x), .ep [.fn f caps]] (.bool (!b)) := by
  have hq := hcl
  refine callsA_of_tr Try.func67 rfl (Nat.le_of_ble_eq_true rfl) ?_
  simp only [Try.results67, envOf, Nat.reduceAdd]
  refine tr_seq fun K1 hK1 => ?_
  refine tr_region [1, 2] rfl rfl fun K hK => ?_
  iterate 2 refine evR_p ?_
  refine evR_e hK ?_; clear hK K
  refine hK1 _ ?_
  refine tr_seq fun K2 hK2 => ?_
  refine tr_region [3] rfl rfl fun K hK => ?_
  iterate 2 refine evR_p ?_
  refine evR_c (hc := hp) (k := ?_)
  iterate 2 refine evR_p ?_
  refine evR_e hK ?_; clear hK K
  refine hK2 _ ?_
  refine tr_ret ?_
  (try simp only [thenE, inBlkE])
  simp (maxSteps := 4000000) (disch := first | assumption | omega | (simp only [go_sem, *]; done) | (simp only [go_sem, *]; omega)) only [postA, postO, resV1, fzAll, go_sem, hq, Int.reduceToNat, Nat.reduceBEq, Nat.reduceEqDiff, Nat.reduceAdd, Nat.reduceMul, Nat.reduceLeDiff, Nat.reduceLT, Nat.reduceSub, ↓reduceIte, reduceCtorEq]
  all_goals (skip)

theorem c68 (xs : List Int) (f : FuncId) (caps : List V) (p : Int → Bool) (hf : okF Try.prog f = true) (hcl : V.clL caps = true) (hp : ∀ x ∈ xs, CallsA Try.prog f (.int .i64 x :: caps) (.bool (p x))) (hm : xs.length ≤ maxLen) : CallsA Try.prog 68 [.sl 1 (encI xs), .fn f caps] (.bool (xs.all p)) := by
  have hq := hcl
  refine callsA_of_tr Try.func68 rfl (Nat.le_of_ble_eq_true rfl) ?_
  simp only [Try.results68, envOf, Nat.reduceAdd]
  refine tr_seq fun K1 hK1 => ?_
  refine tr_region [0, 3] rfl rfl fun K hK => ?_
  iterate 2 refine evR_p ?_
  refine evR_e hK ?_; clear hK K
  refine hK1 _ ?_
  refine tr_seq fun K2 hK2 => ?_
  refine tr_region [4] rfl rfl fun K hK => ?_
  iterate 2 refine evR_p ?_
  refine evR_c (hc := (c72 xs 73 [.ep [.fn f caps]] (fun x => !p x) okF_73 (by simp [V.clL, V.cl]) (fun x hx => c73 x f caps (p x) hf hcl (hp x hx)) hm)) (k := ?_)
  iterate 2 refine evR_p ?_
  refine evR_e hK ?_; clear hK K
  refine hK2 _ ?_
  refine tr_ret ?_
  (try simp only [thenE, inBlkE])
  simp (maxSteps := 4000000) (disch := first | assumption | omega | (simp only [go_sem, *]; done) | (simp only [go_sem, *]; omega)) only [postA, postO, resV1, fzAll, go_sem, hq, Int.reduceToNat, Nat.reduceBEq, Nat.reduceEqDiff, Nat.reduceAdd, Nat.reduceMul, Nat.reduceLeDiff, Nat.reduceLT, Nat.reduceSub, ↓reduceIte, reduceCtorEq]
  all_goals (simp [List.all_eq_not_any_not])

theorem c46 (xs : List Rw) (f : FuncId) (caps : List V) (p : Rw → Bool) (hf : okF Try.prog f = true) (hcl : V.clL caps = true) (hp : ∀ x ∈ xs, CallsA Try.prog f (.agg (encRw x) :: caps) (.bool (p x))) (hm : xs.length ≤ maxLen) : CallsA Try.prog 46 [.sl 6 (encR xs), .fn f caps] (.bool (xs.all p)) := by
  have hq := hcl
  refine callsA_of_tr Try.func46 rfl (Nat.le_of_ble_eq_true rfl) ?_
  simp only [Try.results46, envOf, Nat.reduceAdd]
  refine tr_seq fun K1 hK1 => ?_
  refine tr_region [0, 3] rfl rfl fun K hK => ?_
  iterate 2 refine evR_p ?_
  refine evR_e hK ?_; clear hK K
  refine hK1 _ ?_
  refine tr_seq fun K2 hK2 => ?_
  refine tr_region [4] rfl rfl fun K hK => ?_
  iterate 2 refine evR_p ?_
  refine evR_c (hc := (c66 xs 67 [.ep [.fn f caps]] (fun x => !p x) okF_67 (by simp [V.clL, V.cl]) (fun x hx => c67 x f caps (p x) hf hcl (hp x hx)) hm)) (k := ?_)
  iterate 2 refine evR_p ?_
  refine evR_e hK ?_; clear hK K
  refine hK2 _ ?_
  refine tr_ret ?_
  (try simp only [thenE, inBlkE])
  simp (maxSteps := 4000000) (disch := first | assumption | omega | (simp only [go_sem, *]; done) | (simp only [go_sem, *]; omega)) only [postA, postO, resV1, fzAll, go_sem, hq, Int.reduceToNat, Nat.reduceBEq, Nat.reduceEqDiff, Nat.reduceAdd, Nat.reduceMul, Nat.reduceLeDiff, Nat.reduceLT, Nat.reduceSub, ↓reduceIte, reduceCtorEq]
  all_goals (simp [List.all_eq_not_any_not])

theorem c69 (n : Int) : CallsA Try.prog 69 [.int .i64 n] (.bool (isInB n (-1000000000) 1000000000)) := by
  have hq : True := trivial
  refine callsA_of_tr Try.func69 rfl (Nat.le_of_ble_eq_true rfl) ?_
  simp only [Try.results69, envOf, Nat.reduceAdd]
  refine tr_seq fun K1 hK1 => ?_
  refine tr_region [0] rfl rfl fun K hK => ?_
  refine evR_p ?_
  refine evR_e hK ?_; clear hK K
  refine hK1 _ ?_
  refine tr_seq fun K2 hK2 => ?_
  refine tr_region [2] rfl rfl fun K hK => ?_
  refine evR_p ?_
  refine evR_c (hc := (c49 _ _ _)) (k := ?_)
  refine evR_p ?_
  refine evR_e hK ?_; clear hK K
  refine hK2 _ ?_
  refine tr_ret ?_
  (try simp only [thenE, inBlkE])
  simp (maxSteps := 4000000) (disch := first | assumption | omega | (simp only [go_sem, *]; done) | (simp only [go_sem, *]; omega)) only [postA, postO, resV1, fzAll, go_sem, hq, Int.reduceToNat, Nat.reduceBEq, Nat.reduceEqDiff, Nat.reduceAdd, Nat.reduceMul, Nat.reduceLeDiff, Nat.reduceLT, Nat.reduceSub, ↓reduceIte, reduceCtorEq]
  all_goals (skip)

theorem c50 (l : List Int) (hm : l.length ≤ maxLen) : CallsA Try.prog 50 [.sl 1 (encI l)] (.bool (coefB l)) := by
  have hq : True := trivial
  refine callsA_of_tr Try.func50 rfl (Nat.le_of_ble_eq_true rfl) ?_
  simp only [Try.results50, envOf, Nat.reduceAdd]
  refine tr_seq fun K1 hK1 => ?_
  refine tr_region [0] rfl rfl fun K hK => ?_
  refine evR_p ?_
  refine evR_e hK ?_; clear hK K
  refine hK1 _ ?_
  refine tr_seq fun K2 hK2 => ?_
  refine tr_region [2] rfl rfl fun K hK => ?_
  refine evR_p ?_
  refine evR_c (hc := (c68 l 69 [] (fun n => isInB n (-1000000000) 1000000000) okF_69 rfl (fun x _ => c69 x) hm)) (k := ?_)
  refine evR_p ?_
  refine evR_e hK ?_; clear hK K
  refine hK2 _ ?_
  refine tr_ret ?_
  (try simp only [thenE, inBlkE])
  simp (maxSteps := 4000000) (disch := first | assumption | omega | (simp only [go_sem, *]; done) | (simp only [go_sem, *]; omega)) only [postA, postO, resV1, fzAll, go_sem, hq, Int.reduceToNat, Nat.reduceBEq, Nat.reduceEqDiff, Nat.reduceAdd, Nat.reduceMul, Nat.reduceLeDiff, Nat.reduceLT, Nat.reduceSub, ↓reduceIte, reduceCtorEq]
  all_goals (rfl)

theorem c48 (r : Rw) (hm : r.coef.length ≤ maxLen) (v : Int) : CallsA Try.prog 48 [.agg (encRw r), .int .i64 v] (.bool (rightB r v)) := by
  have hq : True := trivial
  refine callsA_of_tr Try.func48 rfl (Nat.le_of_ble_eq_true rfl) ?_
  simp only [Try.results48, envOf, Nat.reduceAdd]
  refine tr_seq fun K1 hK1 => ?_
  refine tr_region [1, 2] rfl rfl fun K hK => ?_
  iterate 2 refine evR_p ?_
  refine evR_e hK ?_; clear hK K
  refine hK1 _ ?_
  refine tr_seq fun K2 hK2 => ?_
  refine tr_region [4] rfl rfl fun K hK => ?_
  iterate 6 refine evR_p ?_
  iterate 2 refine evR_g ?_
  refine evR_gc (hc := (c50 _ hm)) (k := ?_)
  iterate 2 refine evR_p ?_
  iterate 2 refine evR_g ?_
  refine evR_gc (hc := (c49 _ _ _)) (k := ?_)
  iterate 2 refine evR_p ?_
  refine evR_e hK ?_; clear hK K
  refine hK2 _ ?_
  refine tr_ret ?_
  (try simp only [thenE, inBlkE])
  simp (maxSteps := 4000000) (disch := first | assumption | omega | (simp only [go_sem, *]; done) | (simp only [go_sem, *]; omega)) only [postA, postO, resV1, fzAll, go_sem, hq, Int.reduceToNat, Nat.reduceBEq, Nat.reduceEqDiff, Nat.reduceAdd, Nat.reduceMul, Nat.reduceLeDiff, Nat.reduceLT, Nat.reduceSub, ↓reduceIte, reduceCtorEq]
  all_goals (simp [rightB, Bool.and_assoc])

theorem c55 (r : Rw) (hm : r.coef.length ≤ maxLen) (set : Int) : CallsA Try.prog 55 [.agg (encRw r), .int .i64 set] (.bool (keptB r set)) := by
  have hq : True := trivial
  refine callsA_of_tr Try.func55 rfl (Nat.le_of_ble_eq_true rfl) ?_
  simp only [Try.results55, envOf, Nat.reduceAdd]
  refine tr_seq fun K1 hK1 => ?_
  refine tr_region [1, 2] rfl rfl fun K hK => ?_
  iterate 2 refine evR_p ?_
  refine evR_e hK ?_; clear hK K
  refine hK1 _ ?_
  refine tr_seq fun K2 hK2 => ?_
  refine tr_draw [] [4] mixed rfl (by kernel_rfl) rfl fun K hK => ?_
  iterate 3 refine evD_p ?_
  refine evD_c (hc := (c39 _ _ hm)) (k := ?_)
  iterate 4 refine evD_p ?_
  refine evD_e hK ?_; clear hK K
  refine hK2 _ ?_
  refine tr_ret ?_
  (try simp only [thenE, inBlkE])
  simp (maxSteps := 4000000) (disch := first | assumption | omega | (simp only [go_sem, *]; done) | (simp only [go_sem, *]; omega)) only [postA, postO, resV1, fzAll, go_sem, hq, Int.reduceToNat, Nat.reduceBEq, Nat.reduceEqDiff, Nat.reduceAdd, Nat.reduceMul, Nat.reduceLeDiff, Nat.reduceLT, Nat.reduceSub, ↓reduceIte, reduceCtorEq]
  all_goals (simp [keptB])

theorem c47 (r : Rw) (hm : r.coef.length ≤ maxLen) (p : Pg) : CallsA Try.prog 47 [.agg (encRw r), .ep (encPg p)] (.bool (rightB r p.vars)) := by
  have hq : True := trivial
  refine callsA_of_tr Try.func47 rfl (Nat.le_of_ble_eq_true rfl) ?_
  simp only [Try.results47, envOf, Nat.reduceAdd]
  refine tr_seq fun K1 hK1 => ?_
  refine tr_region [1, 2] rfl rfl fun K hK => ?_
  iterate 2 refine evR_p ?_
  refine evR_e hK ?_; clear hK K
  refine hK1 _ ?_
  refine tr_seq fun K2 hK2 => ?_
  refine tr_region [3] rfl rfl fun K hK => ?_
  iterate 3 refine evR_p ?_
  refine evR_c (hc := (c48 r hm _)) (k := ?_)
  refine evR_p ?_
  refine evR_e hK ?_; clear hK K
  refine hK2 _ ?_
  refine tr_ret ?_
  (try simp only [thenE, inBlkE])
  simp (maxSteps := 4000000) (disch := first | assumption | omega | (simp only [go_sem, *]; done) | (simp only [go_sem, *]; omega)) only [postA, postO, resV1, fzAll, go_sem, hq, Int.reduceToNat, Nat.reduceBEq, Nat.reduceEqDiff, Nat.reduceAdd, Nat.reduceMul, Nat.reduceLeDiff, Nat.reduceLT, Nat.reduceSub, ↓reduceIte, reduceCtorEq]
  all_goals (skip)

theorem c20 (p : Pg) (hr : p.rows.length ≤ maxLen) (hg : p.gain.length ≤ maxLen) (hc : ∀ r ∈ p.rows, r.coef.length ≤ maxLen) : CallsA Try.prog 20 [.agg (encPg p)] (.bool (validB p)) := by
  have hq : True := trivial
  refine callsA_of_tr Try.func20 rfl (Nat.le_of_ble_eq_true rfl) ?_
  simp only [Try.results20, envOf, Nat.reduceAdd]
  refine tr_seq fun K1 hK1 => ?_
  refine tr_region [1] rfl rfl fun K hK => ?_
  iterate 2 refine evR_p ?_
  refine evR_e hK ?_; clear hK K
  refine hK1 _ ?_
  refine tr_seq fun K2 hK2 => ?_
  refine tr_region [1, 3] rfl rfl fun K hK => ?_
  iterate 3 refine evR_p ?_
  refine evR_c (hc := (c46 p.rows 47 [.ep (encPg p)] (fun r => rightB r p.vars) okF_47 rfl (fun r h => c47 r (hc r h) p) hr)) (k := ?_)
  refine evR_p ?_
  refine evR_e hK ?_; clear hK K
  refine hK2 _ ?_
  refine tr_seq fun K3 hK3 => ?_
  refine tr_region [2] rfl rfl fun K hK => ?_
  iterate 2 refine evR_p ?_
  refine evR_c (hc := (c49 _ _ _)) (k := ?_)
  refine evR_p ?_
  iterate 4 refine evR_g ?_
  iterate 2 refine evR_p ?_
  refine evR_g ?_
  iterate 2 refine evR_p ?_
  iterate 6 refine evR_g ?_
  iterate 2 refine evR_p ?_
  iterate 2 refine evR_g ?_
  refine evR_gc (hc := (c50 _ hg)) (k := ?_)
  iterate 2 refine evR_p ?_
  refine evR_e hK ?_; clear hK K
  refine hK3 _ ?_
  refine tr_ret ?_
  (try simp only [thenE, inBlkE])
  simp (maxSteps := 4000000) (disch := first | assumption | omega | (simp only [go_sem, *]; done) | (simp only [go_sem, *]; omega)) only [postA, postO, resV1, fzAll, go_sem, hq, Int.reduceToNat, Nat.reduceBEq, Nat.reduceEqDiff, Nat.reduceAdd, Nat.reduceMul, Nat.reduceLeDiff, Nat.reduceLT, Nat.reduceSub, ↓reduceIte, reduceCtorEq]
  all_goals (simp [validB, Bool.and_assoc])

end Go.Proofs.Ytcphhbiehaimeaa

