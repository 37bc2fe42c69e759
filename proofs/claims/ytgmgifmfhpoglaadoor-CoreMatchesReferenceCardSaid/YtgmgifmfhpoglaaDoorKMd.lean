/- Texts of this proof, put together. -/
import Derived.Test.YtgmgifmfhpoglaaDoorKMb
import Derived.Test.YtgmgifmfhpoglaaDoorKMc
namespace Go.Proofs.YtgmgifmfhpoglaaDoor
open Go.RowKit
set_option linter.unusedVariables false
set_option linter.unusedSimpArgs false
set_option maxRecDepth 100000
attribute [local go_sem] Nat.zero_add Nat.add_zero Nat.mul_one eq_self ne_eq not_true_eq_false not_false_eq_true decide_true decide_false decide_not Bool.false_eq_true List.filter_cons List.filter_nil true_and and_true beq_false beq_true Bool.not_true Bool.not_false Bool.and_true Bool.true_and Option.getD_some Option.getD_none imp_self implies_true Int.toNat_natCast List.cons_append List.nil_append List.map_cons List.map_nil List.length_cons List.length_nil List.getD_cons_zero List.getD_cons_succ List.drop_zero List.drop_succ_cons List.take_succ_cons List.take_zero
attribute [local go_sem] isE isO stpO notIn St.bare evO evDO isEff stp St.get St.slot St.put List.lookup un unL ofVal gof nth pickV pkB_false pkB_true binV unV loadV idxV fldV partV buildV fillV lenV sliV appV appR rowsV winV V.parts V.okp V.sc Mem.look_cons Mem.look_nil V.cl V.clL AObj.clo fzAll exps St.fz Mem.fz V.fz V.fzL AObj.fz Option.isSome_some Option.isSome_none Bool.or_true Bool.true_or Bool.or_false Bool.false_or false_and and_false false_or or_false arT_26 arT_27 arT_23 arT_22 arT_31 arT_45 arT_38 arT_55     boolT_23 boolT_3 boolT_32 boolT_4  flatT_23 flatT_3 flatT_32 flatT_4  intT_3 intT_81 lay_27 lay_23 lay_54 lay_22 lay_25 lay_3 lay_37 lay_45 lay_47 lay_4     lay_88 lay_61  okF_11 okF_18  okF_28     okF_16 okF_47 okF_60     okF_26 okF_61    okF_29       okF_31 okF_48 okF_49  okF_50 okF_51 okF_79    okF_63 okF_64 okF_65 okF_52  okF_66 okF_77 okF_78 okF_45  okF_46 okF_53 okF_54 okF_67 okF_68  okF_69 okF_70 okF_71 okF_72   okF_82 okF_83 okF_84 okF_85  okF_73 okF_74 okF_87 okF_88 okF_86 okF_89   plT_54 plT_25 plT_47 plT_96 plT_93 slT_26 slT_27 slT_23 slT_22 slT_31 slT_45 slT_38 slT_55    slT_94     stT_54_4 stT_54_5 stT_25_0 stT_25_1 stT_25_2 stT_47_0  stT_47_2 stT_47_3  stT_96_1 stT_96_2    zeroT_23 zeroT_54 zeroT_25 zeroT_3 zeroT_37 zeroT_45 zeroT_47 zeroT_55  zeroT_96 zeroT_93
attribute [local go_sem] List.getElem?_cons_zero List.getElem?_cons_succ List.zip_cons_cons List.zip_nil_left List.zip_nil_right Bool.false_and Bool.and_false List.length_append List.length_set List.length_replicate List.all_cons List.all_nil encI_length encI_getD encR_length encR_getD encRw encPg spl shp AObj.shp rowM isSt isRpS isRd csh AObj.csh forall_const imp_self
attribute [local simp] encI_length encR_length
theorem c12 (c n : Int) (hn : 0 < n) : CallsA Tryd.prog 18 [.int .i64 c, .int .i64 n] (.int .i64 (pickW c n)) := by
  have hq : True := trivial
  refine callsA_of_tr Tryd.func18 rfl (Nat.le_of_ble_eq_true rfl) ?_
  simp only [Tryd.results18, envOf, Nat.reduceAdd]
  refine tr_seq fun K1 hK1 => ?_
  refine tr_region [0, 1] rfl rfl fun K hK => ?_
  refine evR_p ?_
  refine evR_e hK ?_; clear hK K
  refine hK1 _ ?_
  refine tr_seq fun K2 hK2 => ?_
  refine tr_seq fun K3 hK3 => ?_
  refine tr_region [0, 1, 6] rfl rfl fun K hK => ?_
  iterate 2 refine evR_p ?_
  refine evR_e hK ?_; clear hK K
  refine hK3 _ ?_
  refine tr_condB (fun ht1 => ?_) (fun ht1 => ?_)
  · skip
    refine tr_region [0, 1] rfl rfl fun K hK => ?_
    iterate 4 refine evR_p ?_
    refine evR_e hK ?_; clear hK K
    refine hK2 _ ?_
    refine tr_seq fun K4 hK4 => ?_
    refine tr_region [4] rfl rfl fun K hK => ?_
    iterate 4 refine evR_p ?_
    refine evR_e hK ?_; clear hK K
    refine hK4 _ ?_
    refine tr_ret ?_
    (try simp only [thenE, inBlkE])
    simp (maxSteps := 4000000) (disch := first | assumption | omega | (simp only [go_sem, *]; done) | (simp only [go_sem, *]; omega)) only [postA, postO, resV1, fzAll, go_sem, hq, Int.reduceToNat, Nat.reduceBEq, Nat.reduceEqDiff, Nat.reduceAdd, Nat.reduceMul, Nat.reduceLeDiff, Nat.reduceLT, Nat.reduceSub, ↓reduceIte, reduceCtorEq]
    all_goals (simp [pickW, *])
  · skip
    refine tr_skip ?_
    (try simp only [thenE, inBlkE])
    refine hK2 _ ?_
    refine tr_seq fun K5 hK5 => ?_
    refine tr_region [4] rfl rfl fun K hK => ?_
    iterate 4 refine evR_p ?_
    refine evR_e hK ?_; clear hK K
    refine hK5 _ ?_
    refine tr_ret ?_
    (try simp only [thenE, inBlkE])
    simp (maxSteps := 4000000) (disch := first | assumption | omega | (simp only [go_sem, *]; done) | (simp only [go_sem, *]; omega)) only [postA, postO, resV1, fzAll, go_sem, hq, Int.reduceToNat, Nat.reduceBEq, Nat.reduceEqDiff, Nat.reduceAdd, Nat.reduceMul, Nat.reduceLeDiff, Nat.reduceLT, Nat.reduceSub, ↓reduceIte, reduceCtorEq]
    all_goals (simp [pickW, *])

theorem c37 (c n : Int) (hn : 0 < n) : CallsA Tryd.prog 31 [.int .i64 c, .int .i64 n] (.int .i64 (pickW c n)) := by
  have hq : True := trivial
  refine callsA_of_tr Tryd.func31 rfl (Nat.le_of_ble_eq_true rfl) ?_
  simp only [Tryd.results31, envOf, Nat.reduceAdd]
  refine tr_seq fun K1 hK1 => ?_
  refine tr_region [0, 1] rfl rfl fun K hK => ?_
  refine evR_p ?_
  refine evR_e hK ?_; clear hK K
  refine hK1 _ ?_
  refine tr_seq fun K2 hK2 => ?_
  refine tr_seq fun K3 hK3 => ?_
  refine tr_region [0, 1, 6] rfl rfl fun K hK => ?_
  iterate 2 refine evR_p ?_
  refine evR_e hK ?_; clear hK K
  refine hK3 _ ?_
  refine tr_condB (fun ht1 => ?_) (fun ht1 => ?_)
  · skip
    refine tr_region [0, 1] rfl rfl fun K hK => ?_
    iterate 4 refine evR_p ?_
    refine evR_e hK ?_; clear hK K
    refine hK2 _ ?_
    refine tr_seq fun K4 hK4 => ?_
    refine tr_region [4] rfl rfl fun K hK => ?_
    iterate 4 refine evR_p ?_
    refine evR_e hK ?_; clear hK K
    refine hK4 _ ?_
    refine tr_ret ?_
    (try simp only [thenE, inBlkE])
    simp (maxSteps := 4000000) (disch := first | assumption | omega | (simp only [go_sem, *]; done) | (simp only [go_sem, *]; omega)) only [postA, postO, resV1, fzAll, go_sem, hq, Int.reduceToNat, Nat.reduceBEq, Nat.reduceEqDiff, Nat.reduceAdd, Nat.reduceMul, Nat.reduceLeDiff, Nat.reduceLT, Nat.reduceSub, ↓reduceIte, reduceCtorEq]
    all_goals (simp [pickW, *])
  · skip
    refine tr_skip ?_
    (try simp only [thenE, inBlkE])
    refine hK2 _ ?_
    refine tr_seq fun K5 hK5 => ?_
    refine tr_region [4] rfl rfl fun K hK => ?_
    iterate 4 refine evR_p ?_
    refine evR_e hK ?_; clear hK K
    refine hK5 _ ?_
    refine tr_ret ?_
    (try simp only [thenE, inBlkE])
    simp (maxSteps := 4000000) (disch := first | assumption | omega | (simp only [go_sem, *]; done) | (simp only [go_sem, *]; omega)) only [postA, postO, resV1, fzAll, go_sem, hq, Int.reduceToNat, Nat.reduceBEq, Nat.reduceEqDiff, Nat.reduceAdd, Nat.reduceMul, Nat.reduceLeDiff, Nat.reduceLT, Nat.reduceSub, ↓reduceIte, reduceCtorEq]
    all_goals (simp [pickW, *])

theorem c49 (n lo hi : Int) : CallsA Tryd.prog 52 [.int .i64 n, .int .i64 lo, .int .i64 hi] (.bool (isInB n lo hi)) := by
  have hq : True := trivial
  refine callsA_of_tr Tryd.func52 rfl (Nat.le_of_ble_eq_true rfl) ?_
  simp only [Tryd.results52, envOf, Nat.reduceAdd]
  refine tr_seq fun K1 hK1 => ?_
  refine tr_region [0, 1, 2] rfl rfl fun K hK => ?_
  refine evR_p ?_
  refine evR_e hK ?_; clear hK K
  refine hK1 _ ?_
  refine tr_seq fun K2 hK2 => ?_
  refine tr_region [6] rfl rfl fun K hK => ?_
  iterate 4 refine evR_p ?_
  iterate 3 refine evR_g ?_
  iterate 2 refine evR_p ?_
  refine evR_e hK ?_; clear hK K
  refine hK2 _ ?_
  refine tr_ret ?_
  (try simp only [thenE, inBlkE])
  simp (maxSteps := 4000000) (disch := first | assumption | omega | (simp only [go_sem, *]; done) | (simp only [go_sem, *]; omega)) only [postA, postO, resV1, fzAll, go_sem, hq, Int.reduceToNat, Nat.reduceBEq, Nat.reduceEqDiff, Nat.reduceAdd, Nat.reduceMul, Nat.reduceLeDiff, Nat.reduceLT, Nat.reduceSub, ↓reduceIte, reduceCtorEq]
  all_goals (simp [isInB])

theorem c39 (l : List Int) (set : Int) (hm : l.length ≤ maxLen) : CallsA Tryd.prog 49 [.sl 1 (encI l), .int .i64 set] (.int .i64 (chosenW l set)) := by
  unfold maxLen at hm
  have hq : True := trivial
  refine callsA_of_tr Tryd.func49 rfl (Nat.le_of_ble_eq_true rfl) ?_
  simp only [Tryd.results49, envOf, Nat.reduceAdd]
  refine tr_seq fun K1 hK1 => ?_
  refine tr_region [0, 1] rfl rfl fun K hK => ?_
  refine evR_p ?_
  refine evR_e hK ?_; clear hK K
  refine hK1 _ ?_
  refine tr_seq fun K2 hK2 => ?_
  refine tr_region [0, 1, 5] rfl rfl fun K hK => ?_
  refine evR_p ?_
  refine evR_e hK ?_; clear hK K
  refine hK2 _ ?_
  refine tr_seq fun K3 hK3 => ?_
  refine tr_seq fun K4 hK4 => ?_
  refine tr_region [1, 5, 8, 9, 10] rfl rfl fun K hK => ?_
  iterate 3 refine evR_p ?_
  refine evR_e hK ?_; clear hK K
  refine hK4 _ ?_
  refine tr_block ?_
  -- loop 1: live [1, 5, 8, 9, 10]
  refine tr_loopW (fun m σ => ∃ i, i + m = l.length ∧ σ = ⟨[(1, .int .i64 set), (5, .int .i64 (chosenG l set i)), (8, .sl 1 (encI l)), (9, .int .i64 l.length), (10, .int .i64 (i : Nat))], [], 0⟩) (l.length) ?_ ?_
  · exact ⟨_, Wk.refl _, 0, by omega, rfl⟩
  · rintro m σ ⟨i, hi, rfl⟩ KL1 hKL1
    refine tr_seq fun K5 hK5 => ?_
    refine tr_region [1, 5, 8, 9, 10, 11] rfl rfl fun K hK => ?_
    refine evR_p ?_
    refine evR_e hK ?_; clear hK K
    refine hK5 _ ?_
    refine tr_seq fun K6 hK6 => ?_
    refine tr_condB (fun ht1 => ?_) (fun ht1 => ?_)
    · skip
      have hil : i < l.length := by omega
      replace hq := And.intro hq (hil)
      refine tr_skip ?_
      (try simp only [thenE, inBlkE])
      refine hK6 _ ?_
      refine tr_seq fun K7 hK7 => ?_
      refine tr_block ?_
      refine tr_seq fun K8 hK8 => ?_
      refine tr_region [1, 5, 6, 7, 8, 9, 10] rfl rfl fun K hK => ?_
      iterate 5 refine evR_p ?_
      refine evR_e hK ?_; clear hK K
      refine hK8 _ ?_
      refine tr_seq fun K9 hK9 => ?_
      refine tr_region [1, 5, 7, 8, 9, 10, 19] rfl rfl fun K hK => ?_
      iterate 5 refine evR_p ?_
      refine evR_e hK ?_; clear hK K
      refine hK9 _ ?_
      refine tr_condB (fun ht2 => ?_) (fun ht2 => ?_)
      · skip
        refine tr_region [1, 5, 8, 9, 10] rfl rfl fun K hK => ?_
        iterate 4 refine evR_p ?_
        refine evR_e hK ?_; clear hK K
        refine hK7 _ ?_
        refine tr_region [1, 5, 8, 9, 10] rfl rfl fun K hK => ?_
        iterate 2 refine evR_p ?_
        refine evR_e hK ?_; clear hK K
        refine hKL1 _ ?_
        exact ⟨m - 1, _, by omega, Wk.refl _, i + 1, by omega, by first | (rw [w64 (x := (i : Int) + 1) (by omega), chosenG_t (by simp only [cBit, *]; decide)]; rfl) | (rw [w64 (x := (i : Int) + 1) (by omega), chosenG_f (by simp only [cBit, decide_eq_false_iff_not, *]; first | assumption | simp)]; rfl)⟩
      · skip
        refine tr_skip ?_
        (try simp only [thenE, inBlkE])
        refine hK7 _ ?_
        refine tr_region [1, 5, 8, 9, 10] rfl rfl fun K hK => ?_
        iterate 2 refine evR_p ?_
        refine evR_e hK ?_; clear hK K
        refine hKL1 _ ?_
        exact ⟨m - 1, _, by omega, Wk.refl _, i + 1, by omega, by first | (rw [w64 (x := (i : Int) + 1) (by omega), chosenG_t (by simp only [cBit, *]; decide)]; rfl) | (rw [w64 (x := (i : Int) + 1) (by omega), chosenG_f (by simp only [cBit, decide_eq_false_iff_not, *]; first | assumption | simp)]; rfl)⟩
    · skip
      have hil : i = l.length := by omega
      subst hil
      refine tr_exit ?_
      simp only [thenE, inBlkE, Nat.reduceEqDiff, ↓reduceIte]
      refine hK3 _ ?_
      refine tr_seq fun K10 hK10 => ?_
      refine tr_region [4] rfl rfl fun K hK => ?_
      iterate 2 refine evR_p ?_
      refine evR_e hK ?_; clear hK K
      refine hK10 _ ?_
      refine tr_ret ?_
      (try simp only [thenE, inBlkE])
      simp (maxSteps := 4000000) (disch := first | assumption | omega | (simp only [go_sem, *]; done) | (simp only [go_sem, *]; omega)) only [postA, postO, resV1, fzAll, go_sem, hq, Int.reduceToNat, Nat.reduceBEq, Nat.reduceEqDiff, Nat.reduceAdd, Nat.reduceMul, Nat.reduceLeDiff, Nat.reduceLT, Nat.reduceSub, ↓reduceIte, reduceCtorEq]
      all_goals (rfl)

theorem c75 (xs : List Int) (f : FuncId) (caps : List V) (p : Int → Bool) (hf : okF Tryd.prog f = true) (hcl : V.clL caps = true) (hp : ∀ x ∈ xs, CallsA Tryd.prog f (.int .i64 x :: caps) (.bool (p x))) (hm : xs.length ≤ maxLen) : CallsA Tryd.prog 89 [.sl 1 (encI xs), .fn f caps] (.int .i64 (idxOf p xs)) := by
  unfold maxLen at hm
  have hq := hcl
  refine callsA_of_tr Tryd.func89 rfl (Nat.le_of_ble_eq_true rfl) ?_
  simp only [Tryd.results89, envOf, Nat.reduceAdd]
  refine tr_seq fun K1 hK1 => ?_
  refine tr_region [0, 1] rfl rfl fun K hK => ?_
  refine evR_p ?_
  refine evR_e hK ?_; clear hK K
  refine hK1 _ ?_
  refine tr_seq fun K2 hK2 => ?_
  refine tr_seq fun K3 hK3 => ?_
  refine tr_region [0, 1, 7, 8] rfl rfl fun K hK => ?_
  iterate 3 refine evR_p ?_
  refine evR_e hK ?_; clear hK K
  refine hK3 _ ?_
  refine tr_block ?_
  -- loop 1: live [0, 1, 7, 8]
  refine tr_loopW (fun m σ => ∃ i, i + m = xs.length ∧ (∀ j, j < i → p (xs.getD j 0) = false) ∧ σ = ⟨[(0, .sl 1 (encI xs)), (1, .fn f caps), (7, .int .i64 xs.length), (8, .int .i64 (i : Nat))], [], 0⟩) (xs.length) ?_ ?_
  · exact ⟨_, Wk.refl _, 0, by omega, (by intro j hj; omega), rfl⟩
  · rintro m σ ⟨i, hi, hpi, rfl⟩ KL1 hKL1
    refine tr_seq fun K4 hK4 => ?_
    refine tr_region [0, 1, 7, 8, 9] rfl rfl fun K hK => ?_
    refine evR_p ?_
    refine evR_e hK ?_; clear hK K
    refine hK4 _ ?_
    refine tr_seq fun K5 hK5 => ?_
    refine tr_condB (fun ht1 => ?_) (fun ht1 => ?_)
    · skip
      have hil : i < xs.length := by omega
      replace hq := And.intro hq (hil)
      refine tr_skip ?_
      (try simp only [thenE, inBlkE])
      refine hK5 _ ?_
      refine tr_seq fun K6 hK6 => ?_
      refine tr_block ?_
      refine tr_seq fun K7 hK7 => ?_
      refine tr_region [0, 1, 5, 7, 8] rfl rfl fun K hK => ?_
      iterate 2 refine evR_p ?_
      refine evR_e hK ?_; clear hK K
      refine hK7 _ ?_
      refine tr_seq fun K8 hK8 => ?_
      refine tr_region [0, 1, 5, 7, 8, 16] rfl rfl fun K hK => ?_
      iterate 5 refine evR_p ?_
      refine evR_c (hc := (hp _ (getD_mem hil))) (k := ?_)
      refine evR_e hK ?_; clear hK K
      refine hK8 _ ?_
      refine tr_condB (fun ht2 => ?_) (fun ht2 => ?_)
      · skip
        refine tr_seq fun K9 hK9 => ?_
        refine tr_region [4] rfl rfl fun K hK => ?_
        iterate 2 refine evR_p ?_
        refine evR_e hK ?_; clear hK K
        refine hK9 _ ?_
        refine tr_ret ?_
        (try simp only [thenE, inBlkE])
        simp (maxSteps := 4000000) (disch := first | assumption | omega | (simp only [go_sem, *]; done) | (simp only [go_sem, *]; omega)) only [postA, postO, resV1, fzAll, go_sem, hq, Int.reduceToNat, Nat.reduceBEq, Nat.reduceEqDiff, Nat.reduceAdd, Nat.reduceMul, Nat.reduceLeDiff, Nat.reduceLT, Nat.reduceSub, ↓reduceIte, reduceCtorEq]
        all_goals (first | (rw [idxOf_at p 0 xs i hil hpi (by assumption)]; done) | (rw [idxOf_none p xs (all_false 0 hpi (by omega))]; done))
      · skip
        refine tr_skip ?_
        (try simp only [thenE, inBlkE])
        refine hK6 _ ?_
        refine tr_region [0, 1, 7, 8] rfl rfl fun K hK => ?_
        iterate 2 refine evR_p ?_
        refine evR_e hK ?_; clear hK K
        refine hKL1 _ ?_
        exact ⟨m - 1, _, by omega, Wk.refl _, i + 1, by omega, step_false hpi (by assumption), by rw [w64 (by omega)]; rfl⟩
    · skip
      have hil : i = xs.length := by omega
      refine tr_exit ?_
      simp only [thenE, inBlkE, Nat.reduceEqDiff, ↓reduceIte]
      refine hK2 _ ?_
      refine tr_seq fun K10 hK10 => ?_
      refine tr_region [4] rfl rfl fun K hK => ?_
      refine evR_p ?_
      refine evR_e hK ?_; clear hK K
      refine hK10 _ ?_
      refine tr_ret ?_
      (try simp only [thenE, inBlkE])
      simp (maxSteps := 4000000) (disch := first | assumption | omega | (simp only [go_sem, *]; done) | (simp only [go_sem, *]; omega)) only [postA, postO, resV1, fzAll, go_sem, hq, Int.reduceToNat, Nat.reduceBEq, Nat.reduceEqDiff, Nat.reduceAdd, Nat.reduceMul, Nat.reduceLeDiff, Nat.reduceLT, Nat.reduceSub, ↓reduceIte, reduceCtorEq]
      all_goals (first | (rw [idxOf_at p 0 xs i hil hpi (by assumption)]; done) | (rw [idxOf_none p xs (all_false 0 hpi (by omega))]; done))

theorem c61 (xs : List Rw) (f : FuncId) (caps : List V) (p : Rw → Bool) (hf : okF Tryd.prog f = true) (hcl : V.clL caps = true) (hp : ∀ x ∈ xs, CallsA Tryd.prog f (.agg (encRw x) :: caps) (.bool (p x))) (hm : xs.length ≤ maxLen) : CallsA Tryd.prog 70 [.sl 6 (encR xs), .fn f caps] (.int .i64 (idxOf p xs)) := by
  unfold maxLen at hm
  have hq := hcl
  refine callsA_of_tr Tryd.func70 rfl (Nat.le_of_ble_eq_true rfl) ?_
  simp only [Tryd.results70, envOf, Nat.reduceAdd]
  refine tr_seq fun K1 hK1 => ?_
  refine tr_region [0, 1] rfl rfl fun K hK => ?_
  refine evR_p ?_
  refine evR_e hK ?_; clear hK K
  refine hK1 _ ?_
  refine tr_seq fun K2 hK2 => ?_
  refine tr_seq fun K3 hK3 => ?_
  refine tr_region [0, 1, 7, 8] rfl rfl fun K hK => ?_
  iterate 3 refine evR_p ?_
  refine evR_e hK ?_; clear hK K
  refine hK3 _ ?_
  refine tr_block ?_
  -- loop 1: live [0, 1, 7, 8]
  refine tr_loopW (fun m σ => ∃ i, i + m = xs.length ∧ (∀ j, j < i → p (xs.getD j rw0) = false) ∧ σ = ⟨[(0, .sl 6 (encR xs)), (1, .fn f caps), (7, .int .i64 xs.length), (8, .int .i64 (i : Nat))], [], 0⟩) (xs.length) ?_ ?_
  · exact ⟨_, Wk.refl _, 0, by omega, (by intro j hj; omega), rfl⟩
  · rintro m σ ⟨i, hi, hpi, rfl⟩ KL1 hKL1
    refine tr_seq fun K4 hK4 => ?_
    refine tr_region [0, 1, 7, 8, 9] rfl rfl fun K hK => ?_
    refine evR_p ?_
    refine evR_e hK ?_; clear hK K
    refine hK4 _ ?_
    refine tr_seq fun K5 hK5 => ?_
    refine tr_condB (fun ht1 => ?_) (fun ht1 => ?_)
    · skip
      have hil : i < xs.length := by omega
      replace hq := And.intro hq (hil)
      refine tr_skip ?_
      (try simp only [thenE, inBlkE])
      refine hK5 _ ?_
      refine tr_seq fun K6 hK6 => ?_
      refine tr_block ?_
      refine tr_seq fun K7 hK7 => ?_
      refine tr_region [0, 1, 5, 7, 8] rfl rfl fun K hK => ?_
      iterate 2 refine evR_p ?_
      refine evR_e hK ?_; clear hK K
      refine hK7 _ ?_
      refine tr_seq fun K8 hK8 => ?_
      refine tr_region [0, 1, 5, 7, 8, 16] rfl rfl fun K hK => ?_
      iterate 5 refine evR_p ?_
      refine evR_c (hc := (hp _ (getD_mem hil))) (k := ?_)
      refine evR_e hK ?_; clear hK K
      refine hK8 _ ?_
      refine tr_condB (fun ht2 => ?_) (fun ht2 => ?_)
      · skip
        refine tr_seq fun K9 hK9 => ?_
        refine tr_region [4] rfl rfl fun K hK => ?_
        iterate 2 refine evR_p ?_
        refine evR_e hK ?_; clear hK K
        refine hK9 _ ?_
        refine tr_ret ?_
        (try simp only [thenE, inBlkE])
        simp (maxSteps := 4000000) (disch := first | assumption | omega | (simp only [go_sem, *]; done) | (simp only [go_sem, *]; omega)) only [postA, postO, resV1, fzAll, go_sem, hq, Int.reduceToNat, Nat.reduceBEq, Nat.reduceEqDiff, Nat.reduceAdd, Nat.reduceMul, Nat.reduceLeDiff, Nat.reduceLT, Nat.reduceSub, ↓reduceIte, reduceCtorEq]
        all_goals (first | (rw [idxOf_at p rw0 xs i hil hpi (by assumption)]; done) | (rw [idxOf_none p xs (all_false rw0 hpi (by omega))]; done))
      · skip
        refine tr_skip ?_
        (try simp only [thenE, inBlkE])
        refine hK6 _ ?_
        refine tr_region [0, 1, 7, 8] rfl rfl fun K hK => ?_
        iterate 2 refine evR_p ?_
        refine evR_e hK ?_; clear hK K
        refine hKL1 _ ?_
        exact ⟨m - 1, _, by omega, Wk.refl _, i + 1, by omega, step_false hpi (by assumption), by rw [w64 (by omega)]; rfl⟩
    · skip
      have hil : i = xs.length := by omega
      refine tr_exit ?_
      simp only [thenE, inBlkE, Nat.reduceEqDiff, ↓reduceIte]
      refine hK2 _ ?_
      refine tr_seq fun K10 hK10 => ?_
      refine tr_region [4] rfl rfl fun K hK => ?_
      refine evR_p ?_
      refine evR_e hK ?_; clear hK K
      refine hK10 _ ?_
      refine tr_ret ?_
      (try simp only [thenE, inBlkE])
      simp (maxSteps := 4000000) (disch := first | assumption | omega | (simp only [go_sem, *]; done) | (simp only [go_sem, *]; omega)) only [postA, postO, resV1, fzAll, go_sem, hq, Int.reduceToNat, Nat.reduceBEq, Nat.reduceEqDiff, Nat.reduceAdd, Nat.reduceMul, Nat.reduceLeDiff, Nat.reduceLT, Nat.reduceSub, ↓reduceIte, reduceCtorEq]
      all_goals (first | (rw [idxOf_at p rw0 xs i hil hpi (by assumption)]; done) | (rw [idxOf_none p xs (all_false rw0 hpi (by omega))]; done))

theorem c72 (xs : List Int) (f : FuncId) (caps : List V) (p : Int → Bool) (hf : okF Tryd.prog f = true) (hcl : V.clL caps = true) (hp : ∀ x ∈ xs, CallsA Tryd.prog f (.int .i64 x :: caps) (.bool (p x))) (hm : xs.length ≤ maxLen) : CallsA Tryd.prog 87 [.sl 1 (encI xs), .fn f caps] (.bool (xs.any p)) := by
  have hq := hcl
  refine callsA_of_tr Tryd.func87 rfl (Nat.le_of_ble_eq_true rfl) ?_
  simp only [Tryd.results87, envOf, Nat.reduceAdd]
  refine tr_seq fun K1 hK1 => ?_
  refine tr_region [0, 1] rfl rfl fun K hK => ?_
  refine evR_p ?_
  refine evR_e hK ?_; clear hK K
  refine hK1 _ ?_
  refine tr_seq fun K2 hK2 => ?_
  refine tr_region [4] rfl rfl fun K hK => ?_
  iterate 2 refine evR_p ?_
  refine evR_c (hc := (c75 _ _ _ p hf hcl hp hm)) (k := ?_)
  iterate 2 refine evR_p ?_
  refine evR_e hK ?_; clear hK K
  refine hK2 _ ?_
  refine tr_ret ?_
  (try simp only [thenE, inBlkE])
  simp (maxSteps := 4000000) (disch := first | assumption | omega | (simp only [go_sem, *]; done) | (simp only [go_sem, *]; omega)) only [postA, postO, resV1, fzAll, go_sem, hq, Int.reduceToNat, Nat.reduceBEq, Nat.reduceEqDiff, Nat.reduceAdd, Nat.reduceMul, Nat.reduceLeDiff, Nat.reduceLT, Nat.reduceSub, ↓reduceIte, reduceCtorEq]
  all_goals (simp [idxOf_ge])

theorem c66 (xs : List Rw) (f : FuncId) (caps : List V) (p : Rw → Bool) (hf : okF Tryd.prog f = true) (hcl : V.clL caps = true) (hp : ∀ x ∈ xs, CallsA Tryd.prog f (.agg (encRw x) :: caps) (.bool (p x))) (hm : xs.length ≤ maxLen) : CallsA Tryd.prog 82 [.sl 6 (encR xs), .fn f caps] (.bool (xs.any p)) := by
  have hq := hcl
  refine callsA_of_tr Tryd.func82 rfl (Nat.le_of_ble_eq_true rfl) ?_
  simp only [Tryd.results82, envOf, Nat.reduceAdd]
  refine tr_seq fun K1 hK1 => ?_
  refine tr_region [0, 1] rfl rfl fun K hK => ?_
  refine evR_p ?_
  refine evR_e hK ?_; clear hK K
  refine hK1 _ ?_
  refine tr_seq fun K2 hK2 => ?_
  refine tr_region [4] rfl rfl fun K hK => ?_
  iterate 2 refine evR_p ?_
  refine evR_c (hc := (c61 _ _ _ p hf hcl hp hm)) (k := ?_)
  iterate 2 refine evR_p ?_
  refine evR_e hK ?_; clear hK K
  refine hK2 _ ?_
  refine tr_ret ?_
  (try simp only [thenE, inBlkE])
  simp (maxSteps := 4000000) (disch := first | assumption | omega | (simp only [go_sem, *]; done) | (simp only [go_sem, *]; omega)) only [postA, postO, resV1, fzAll, go_sem, hq, Int.reduceToNat, Nat.reduceBEq, Nat.reduceEqDiff, Nat.reduceAdd, Nat.reduceMul, Nat.reduceLeDiff, Nat.reduceLT, Nat.reduceSub, ↓reduceIte, reduceCtorEq]
  all_goals (simp [idxOf_ge])

theorem c73 (x : Int) (f : FuncId) (caps : List V) (b : Bool) (hf : okF Tryd.prog f = true) (hcl : V.clL caps = true) (hp : CallsA Tryd.prog f (.int .i64 x :: caps) (.bool b)) : CallsA Tryd.prog 88 [.int .i64 x, .ep [.fn f caps]] (.bool (!b)) := by
  have hq := hcl
  refine callsA_of_tr Tryd.func88 rfl (Nat.le_of_ble_eq_true rfl) ?_
  simp only [Tryd.results88, envOf, Nat.reduceAdd]
  refine tr_seq fun K1 hK1 => ?_
  refine tr_region [0, 1] rfl rfl fun K hK => ?_
  refine evR_p ?_
  refine evR_e hK ?_; clear hK K
  refine hK1 _ ?_
  refine tr_seq fun K2 hK2 => ?_
  refine tr_region [3] rfl rfl fun K hK => ?_
  iterate 2 refine evR_p ?_
  refine evR_c (hc := hp) (k := ?_)
  iterate 2 refine evR_p ?_
  refine evR_e hK ?_; clear hK K
  refine hK2 _ ?_
  refine tr_ret ?_
  (try simp only [thenE, inBlkE])
  simp (maxSteps := 4000000) (disch := first | assumption | omega | (simp only [go_sem, *]; done) | (simp only [go_sem, *]; omega)) only [postA, postO, resV1, fzAll, go_sem, hq, Int.reduceToNat, Nat.reduceBEq, Nat.reduceEqDiff, Nat.reduceAdd, Nat.reduceMul, Nat.reduceLeDiff, Nat.reduceLT, Nat.reduceSub, ↓reduceIte, reduceCtorEq]
  all_goals (skip)

theorem c67 (x : Rw) (f : FuncId) (caps : List V) (b : Bool) (hf : okF Tryd.prog f = true) (hcl : V.clL caps = true) (hp : CallsA Tryd.prog f (.agg (encRw x) :: caps) (.bool b)) : CallsA Tryd.prog 83 [.agg (encRw x), .ep [.fn f caps]] (.bool (!b)) := by
  have hq := hcl
  refine callsA_of_tr Tryd.func83 rfl (Nat.le_of_ble_eq_true rfl) ?_
  simp only [Tryd.results83, envOf, Nat.reduceAdd]
  refine tr_seq fun K1 hK1 => ?_
  refine tr_region [1, 2] rfl rfl fun K hK => ?_
  iterate 2 refine evR_p ?_
  refine evR_e hK ?_; clear hK K
  refine hK1 _ ?_
  refine tr_seq fun K2 hK2 => ?_
  refine tr_region [3] rfl rfl fun K hK => ?_
  iterate 2 refine evR_p ?_
  refine evR_c (hc := hp) (k := ?_)
  iterate 2 refine evR_p ?_
  refine evR_e hK ?_; clear hK K
  refine hK2 _ ?_
  refine tr_ret ?_
  (try simp only [thenE, inBlkE])
  simp (maxSteps := 4000000) (disch := first | assumption | omega | (simp only [go_sem, *]; done) | (simp only [go_sem, *]; omega)) only [postA, postO, resV1, fzAll, go_sem, hq, Int.reduceToNat, Nat.reduceBEq, Nat.reduceEqDiff, Nat.reduceAdd, Nat.reduceMul, Nat.reduceLeDiff, Nat.reduceLT, Nat.reduceSub, ↓reduceIte, reduceCtorEq]
  all_goals (skip)

theorem c68 (xs : List Int) (f : FuncId) (caps : List V) (p : Int → Bool) (hf : okF Tryd.prog f = true) (hcl : V.clL caps = true) (hp : ∀ x ∈ xs, CallsA Tryd.prog f (.int .i64 x :: caps) (.bool (p x))) (hm : xs.length ≤ maxLen) : CallsA Tryd.prog 84 [.sl 1 (encI xs), .fn f caps] (.bool (xs.all p)) := by
  have hq := hcl
  refine callsA_of_tr Tryd.func84 rfl (Nat.le_of_ble_eq_true rfl) ?_
  simp only [Tryd.results84, envOf, Nat.reduceAdd]
  refine tr_seq fun K1 hK1 => ?_
  refine tr_region [0, 3] rfl rfl fun K hK => ?_
  iterate 2 refine evR_p ?_
  refine evR_e hK ?_; clear hK K
  refine hK1 _ ?_
  refine tr_seq fun K2 hK2 => ?_
  refine tr_region [4] rfl rfl fun K hK => ?_
  iterate 2 refine evR_p ?_
  refine evR_c (hc := (c72 xs 88 [.ep [.fn f caps]] (fun x => !p x) okF_88 (by simp [V.clL, V.cl]) (fun x hx => c73 x f caps (p x) hf hcl (hp x hx)) hm)) (k := ?_)
  iterate 2 refine evR_p ?_
  refine evR_e hK ?_; clear hK K
  refine hK2 _ ?_
  refine tr_ret ?_
  (try simp only [thenE, inBlkE])
  simp (maxSteps := 4000000) (disch := first | assumption | omega | (simp only [go_sem, *]; done) | (simp only [go_sem, *]; omega)) only [postA, postO, resV1, fzAll, go_sem, hq, Int.reduceToNat, Nat.reduceBEq, Nat.reduceEqDiff, Nat.reduceAdd, Nat.reduceMul, Nat.reduceLeDiff, Nat.reduceLT, Nat.reduceSub, ↓reduceIte, reduceCtorEq]
  all_goals (simp [List.all_eq_not_any_not])

theorem c46 (xs : List Rw) (f : FuncId) (caps : List V) (p : Rw → Bool) (hf : okF Tryd.prog f = true) (hcl : V.clL caps = true) (hp : ∀ x ∈ xs, CallsA Tryd.prog f (.agg (encRw x) :: caps) (.bool (p x))) (hm : xs.length ≤ maxLen) : CallsA Tryd.prog 63 [.sl 6 (encR xs), .fn f caps] (.bool (xs.all p)) := by
  have hq := hcl
  refine callsA_of_tr Tryd.func63 rfl (Nat.le_of_ble_eq_true rfl) ?_
  simp only [Tryd.results63, envOf, Nat.reduceAdd]
  refine tr_seq fun K1 hK1 => ?_
  refine tr_region [0, 3] rfl rfl fun K hK => ?_
  iterate 2 refine evR_p ?_
  refine evR_e hK ?_; clear hK K
  refine hK1 _ ?_
  refine tr_seq fun K2 hK2 => ?_
  refine tr_region [4] rfl rfl fun K hK => ?_
  iterate 2 refine evR_p ?_
  refine evR_c (hc := (c66 xs 83 [.ep [.fn f caps]] (fun x => !p x) okF_83 (by simp [V.clL, V.cl]) (fun x hx => c67 x f caps (p x) hf hcl (hp x hx)) hm)) (k := ?_)
  iterate 2 refine evR_p ?_
  refine evR_e hK ?_; clear hK K
  refine hK2 _ ?_
  refine tr_ret ?_
  (try simp only [thenE, inBlkE])
  simp (maxSteps := 4000000) (disch := first | assumption | omega | (simp only [go_sem, *]; done) | (simp only [go_sem, *]; omega)) only [postA, postO, resV1, fzAll, go_sem, hq, Int.reduceToNat, Nat.reduceBEq, Nat.reduceEqDiff, Nat.reduceAdd, Nat.reduceMul, Nat.reduceLeDiff, Nat.reduceLT, Nat.reduceSub, ↓reduceIte, reduceCtorEq]
  all_goals (simp [List.all_eq_not_any_not])

theorem c69 (n : Int) : CallsA Tryd.prog 85 [.int .i64 n] (.bool (isInB n (-1000000000) 1000000000)) := by
  have hq : True := trivial
  refine callsA_of_tr Tryd.func85 rfl (Nat.le_of_ble_eq_true rfl) ?_
  simp only [Tryd.results85, envOf, Nat.reduceAdd]
  refine tr_seq fun K1 hK1 => ?_
  refine tr_region [0] rfl rfl fun K hK => ?_
  refine evR_p ?_
  refine evR_e hK ?_; clear hK K
  refine hK1 _ ?_
  refine tr_seq fun K2 hK2 => ?_
  refine tr_region [2] rfl rfl fun K hK => ?_
  refine evR_p ?_
  refine evR_c (hc := (c49 _ _ _)) (k := ?_)
  refine evR_p ?_
  refine evR_e hK ?_; clear hK K
  refine hK2 _ ?_
  refine tr_ret ?_
  (try simp only [thenE, inBlkE])
  simp (maxSteps := 4000000) (disch := first | assumption | omega | (simp only [go_sem, *]; done) | (simp only [go_sem, *]; omega)) only [postA, postO, resV1, fzAll, go_sem, hq, Int.reduceToNat, Nat.reduceBEq, Nat.reduceEqDiff, Nat.reduceAdd, Nat.reduceMul, Nat.reduceLeDiff, Nat.reduceLT, Nat.reduceSub, ↓reduceIte, reduceCtorEq]
  all_goals (skip)

theorem c50 (l : List Int) (hm : l.length ≤ maxLen) : CallsA Tryd.prog 66 [.sl 1 (encI l)] (.bool (coefB l)) := by
  have hq : True := trivial
  refine callsA_of_tr Tryd.func66 rfl (Nat.le_of_ble_eq_true rfl) ?_
  simp only [Tryd.results66, envOf, Nat.reduceAdd]
  refine tr_seq fun K1 hK1 => ?_
  refine tr_region [0] rfl rfl fun K hK => ?_
  refine evR_p ?_
  refine evR_e hK ?_; clear hK K
  refine hK1 _ ?_
  refine tr_seq fun K2 hK2 => ?_
  refine tr_region [2] rfl rfl fun K hK => ?_
  refine evR_p ?_
  refine evR_c (hc := (c68 l 85 [] (fun n => isInB n (-1000000000) 1000000000) okF_85 rfl (fun x _ => c69 x) hm)) (k := ?_)
  refine evR_p ?_
  refine evR_e hK ?_; clear hK K
  refine hK2 _ ?_
  refine tr_ret ?_
  (try simp only [thenE, inBlkE])
  simp (maxSteps := 4000000) (disch := first | assumption | omega | (simp only [go_sem, *]; done) | (simp only [go_sem, *]; omega)) only [postA, postO, resV1, fzAll, go_sem, hq, Int.reduceToNat, Nat.reduceBEq, Nat.reduceEqDiff, Nat.reduceAdd, Nat.reduceMul, Nat.reduceLeDiff, Nat.reduceLT, Nat.reduceSub, ↓reduceIte, reduceCtorEq]
  all_goals (rfl)

theorem c48 (r : Rw) (hm : r.coef.length ≤ maxLen) (v : Int) : CallsA Tryd.prog 65 [.agg (encRw r), .int .i64 v] (.bool (rightB r v)) := by
  have hq : True := trivial
  refine callsA_of_tr Tryd.func65 rfl (Nat.le_of_ble_eq_true rfl) ?_
  simp only [Tryd.results65, envOf, Nat.reduceAdd]
  refine tr_seq fun K1 hK1 => ?_
  refine tr_region [1, 2] rfl rfl fun K hK => ?_
  iterate 2 refine evR_p ?_
  refine evR_e hK ?_; clear hK K
  refine hK1 _ ?_
  refine tr_seq fun K2 hK2 => ?_
  refine tr_region [4] rfl rfl fun K hK => ?_
  iterate 6 refine evR_p ?_
  iterate 2 refine evR_g ?_
  refine evR_gc (hc := (c50 _ hm)) (k := ?_)
  iterate 2 refine evR_p ?_
  iterate 2 refine evR_g ?_
  refine evR_gc (hc := (c49 _ _ _)) (k := ?_)
  iterate 2 refine evR_p ?_
  refine evR_e hK ?_; clear hK K
  refine hK2 _ ?_
  refine tr_ret ?_
  (try simp only [thenE, inBlkE])
  simp (maxSteps := 4000000) (disch := first | assumption | omega | (simp only [go_sem, *]; done) | (simp only [go_sem, *]; omega)) only [postA, postO, resV1, fzAll, go_sem, hq, Int.reduceToNat, Nat.reduceBEq, Nat.reduceEqDiff, Nat.reduceAdd, Nat.reduceMul, Nat.reduceLeDiff, Nat.reduceLT, Nat.reduceSub, ↓reduceIte, reduceCtorEq]
  all_goals (simp [rightB, Bool.and_assoc])

theorem c55 (r : Rw) (hm : r.coef.length ≤ maxLen) (set : Int) : CallsA Tryd.prog 46 [.agg (encRw r), .int .i64 set] (.bool (keptB r set)) := by
  have hq : True := trivial
  refine callsA_of_tr Tryd.func46 rfl (Nat.le_of_ble_eq_true rfl) ?_
  simp only [Tryd.results46, envOf, Nat.reduceAdd]
  refine tr_seq fun K1 hK1 => ?_
  refine tr_region [1, 2] rfl rfl fun K hK => ?_
  iterate 2 refine evR_p ?_
  refine evR_e hK ?_; clear hK K
  refine hK1 _ ?_
  refine tr_seq fun K2 hK2 => ?_
  refine tr_draw [] [4] mixed rfl (by kernel_rfl) rfl fun K hK => ?_
  iterate 3 refine evD_p ?_
  refine evD_c (hc := (c39 _ _ hm)) (k := ?_)
  iterate 4 refine evD_p ?_
  refine evD_e hK ?_; clear hK K
  refine hK2 _ ?_
  refine tr_ret ?_
  (try simp only [thenE, inBlkE])
  simp (maxSteps := 4000000) (disch := first | assumption | omega | (simp only [go_sem, *]; done) | (simp only [go_sem, *]; omega)) only [postA, postO, resV1, fzAll, go_sem, hq, Int.reduceToNat, Nat.reduceBEq, Nat.reduceEqDiff, Nat.reduceAdd, Nat.reduceMul, Nat.reduceLeDiff, Nat.reduceLT, Nat.reduceSub, ↓reduceIte, reduceCtorEq]
  all_goals (simp [keptB])

theorem c47 (r : Rw) (hm : r.coef.length ≤ maxLen) (p : Pg) : CallsA Tryd.prog 64 [.agg (encRw r), .ep (encPg p)] (.bool (rightB r p.vars)) := by
  have hq : True := trivial
  refine callsA_of_tr Tryd.func64 rfl (Nat.le_of_ble_eq_true rfl) ?_
  simp only [Tryd.results64, envOf, Nat.reduceAdd]
  refine tr_seq fun K1 hK1 => ?_
  refine tr_region [1, 2] rfl rfl fun K hK => ?_
  iterate 2 refine evR_p ?_
  refine evR_e hK ?_; clear hK K
  refine hK1 _ ?_
  refine tr_seq fun K2 hK2 => ?_
  refine tr_region [3] rfl rfl fun K hK => ?_
  iterate 3 refine evR_p ?_
  refine evR_c (hc := (c48 r hm _)) (k := ?_)
  refine evR_p ?_
  refine evR_e hK ?_; clear hK K
  refine hK2 _ ?_
  refine tr_ret ?_
  (try simp only [thenE, inBlkE])
  simp (maxSteps := 4000000) (disch := first | assumption | omega | (simp only [go_sem, *]; done) | (simp only [go_sem, *]; omega)) only [postA, postO, resV1, fzAll, go_sem, hq, Int.reduceToNat, Nat.reduceBEq, Nat.reduceEqDiff, Nat.reduceAdd, Nat.reduceMul, Nat.reduceLeDiff, Nat.reduceLT, Nat.reduceSub, ↓reduceIte, reduceCtorEq]
  all_goals (skip)

theorem c20 (p : Pg) (hr : p.rows.length ≤ maxLen) (hg : p.gain.length ≤ maxLen) (hc : ∀ r ∈ p.rows, r.coef.length ≤ maxLen) : CallsA Tryd.prog 47 [.agg (encPg p)] (.bool (validB p)) := by
  have hq : True := trivial
  refine callsA_of_tr Tryd.func47 rfl (Nat.le_of_ble_eq_true rfl) ?_
  simp only [Tryd.results47, envOf, Nat.reduceAdd]
  refine tr_seq fun K1 hK1 => ?_
  refine tr_region [1] rfl rfl fun K hK => ?_
  iterate 2 refine evR_p ?_
  refine evR_e hK ?_; clear hK K
  refine hK1 _ ?_
  refine tr_seq fun K2 hK2 => ?_
  refine tr_region [1, 3] rfl rfl fun K hK => ?_
  iterate 3 refine evR_p ?_
  refine evR_c (hc := (c46 p.rows 64 [.ep (encPg p)] (fun r => rightB r p.vars) okF_64 rfl (fun r h => c47 r (hc r h) p) hr)) (k := ?_)
  refine evR_p ?_
  refine evR_e hK ?_; clear hK K
  refine hK2 _ ?_
  refine tr_seq fun K3 hK3 => ?_
  refine tr_region [2] rfl rfl fun K hK => ?_
  iterate 2 refine evR_p ?_
  refine evR_c (hc := (c49 _ _ _)) (k := ?_)
  refine evR_p ?_
  iterate 4 refine evR_g ?_
  iterate 2 refine evR_p ?_
  refine evR_g ?_
  iterate 2 refine evR_p ?_
  iterate 6 refine evR_g ?_
  iterate 2 refine evR_p ?_
  iterate 2 refine evR_g ?_
  refine evR_gc (hc := (c50 _ hg)) (k := ?_)
  iterate 2 refine evR_p ?_
  refine evR_e hK ?_; clear hK K
  refine hK3 _ ?_
  refine tr_ret ?_
  (try simp only [thenE, inBlkE])
  simp (maxSteps := 4000000) (disch := first | assumption | omega | (simp only [go_sem, *]; done) | (simp only [go_sem, *]; omega)) only [postA, postO, resV1, fzAll, go_sem, hq, Int.reduceToNat, Nat.reduceBEq, Nat.reduceEqDiff, Nat.reduceAdd, Nat.reduceMul, Nat.reduceLeDiff, Nat.reduceLT, Nat.reduceSub, ↓reduceIte, reduceCtorEq]
  all_goals (simp [validB, Bool.and_assoc])

end Go.Proofs.YtgmgifmfhpoglaaDoor


namespace Go.Proofs.YtgmgifmfhpoglaaDoor
open Go.RowKit
set_option linter.unusedVariables false
set_option linter.unusedSimpArgs false
set_option maxRecDepth 100000
attribute [local go_sem] Nat.zero_add Nat.add_zero Nat.mul_one eq_self ne_eq not_true_eq_false not_false_eq_true decide_true decide_false decide_not Bool.false_eq_true List.filter_cons List.filter_nil true_and and_true beq_false beq_true Bool.not_true Bool.not_false Bool.and_true Bool.true_and Option.getD_some Option.getD_none imp_self implies_true Int.toNat_natCast List.cons_append List.nil_append List.map_cons List.map_nil List.length_cons List.length_nil List.getD_cons_zero List.getD_cons_succ List.drop_zero List.drop_succ_cons List.take_succ_cons List.take_zero
attribute [local go_sem] isE isO stpO notIn St.bare evO evDO isEff stp St.get St.slot St.put List.lookup un unL ofVal gof nth pickV pkB_false pkB_true binV unV loadV idxV fldV partV buildV fillV lenV sliV appV appR rowsV winV V.parts V.okp V.sc Mem.look_cons Mem.look_nil V.cl V.clL AObj.clo fzAll exps St.fz Mem.fz V.fz V.fzL AObj.fz Option.isSome_some Option.isSome_none Bool.or_true Bool.true_or Bool.or_false Bool.false_or false_and and_false false_or or_false arT_26 arT_27 arT_23 arT_22 arT_31 arT_45 arT_38 arT_55     boolT_23 boolT_3 boolT_32 boolT_4  flatT_23 flatT_3 flatT_32 flatT_4  intT_3 intT_81 lay_27 lay_23 lay_54 lay_22 lay_25 lay_3 lay_37 lay_45 lay_47 lay_4     lay_88 lay_61  okF_11 okF_18  okF_28     okF_16 okF_47 okF_60     okF_26 okF_61    okF_29       okF_31 okF_48 okF_49  okF_50 okF_51 okF_79    okF_63 okF_64 okF_65 okF_52  okF_66 okF_77 okF_78 okF_45  okF_46 okF_53 okF_54 okF_67 okF_68  okF_69 okF_70 okF_71 okF_72   okF_82 okF_83 okF_84 okF_85  okF_73 okF_74 okF_87 okF_88 okF_86 okF_89   plT_54 plT_25 plT_47 plT_96 plT_93 slT_26 slT_27 slT_23 slT_22 slT_31 slT_45 slT_38 slT_55    slT_94     stT_54_4 stT_54_5 stT_25_0 stT_25_1 stT_25_2 stT_47_0  stT_47_2 stT_47_3  stT_96_1 stT_96_2    zeroT_23 zeroT_54 zeroT_25 zeroT_3 zeroT_37 zeroT_45 zeroT_47 zeroT_55  zeroT_96 zeroT_93
attribute [local go_sem] List.getElem?_cons_zero List.getElem?_cons_succ List.zip_cons_cons List.zip_nil_left List.zip_nil_right Bool.false_and Bool.and_false List.length_append List.length_set List.length_replicate List.all_cons List.all_nil encI_length encI_getD encR_length encR_getD encRw encPg spl shp AObj.shp rowM isSt isRpS isRd csh AObj.csh forall_const imp_self
attribute [local simp] encI_length encR_length
theorem c71 (x : Int) : CallsA Tryd.prog 74 [.int .i64 x] (.bool false) := by
  have hq : True := trivial
  refine callsA_of_tr Tryd.func74 rfl (Nat.le_of_ble_eq_true rfl) ?_
  simp only [Tryd.results74, envOf, Nat.reduceAdd]
  refine tr_seq fun K1 hK1 => ?_
  refine tr_region [0] rfl rfl fun K hK => ?_
  refine evR_p ?_
  refine evR_e hK ?_; clear hK K
  refine hK1 _ ?_
  refine tr_seq fun K2 hK2 => ?_
  refine tr_region [2] rfl rfl fun K hK => ?_
  iterate 4 refine evR_p ?_
  refine evR_e hK ?_; clear hK K
  refine hK2 _ ?_
  refine tr_ret ?_
  (try simp only [thenE, inBlkE])
  simp (maxSteps := 4000000) (disch := first | assumption | omega | (simp only [go_sem, *]; done) | (simp only [go_sem, *]; omega)) only [postA, postO, resV1, fzAll, go_sem, hq, Int.reduceToNat, Nat.reduceBEq, Nat.reduceEqDiff, Nat.reduceAdd, Nat.reduceMul, Nat.reduceLeDiff, Nat.reduceLT, Nat.reduceSub, ↓reduceIte, reduceCtorEq]
  all_goals (simp)

theorem c74 (x : Int) : CallsA Tryd.prog 86 [.int .i64 x] (.bool false) := by
  have hq : True := trivial
  refine callsA_of_tr Tryd.func86 rfl (Nat.le_of_ble_eq_true rfl) ?_
  simp only [Tryd.results86, envOf, Nat.reduceAdd]
  refine tr_seq fun K1 hK1 => ?_
  refine tr_region [0] rfl rfl fun K hK => ?_
  refine evR_p ?_
  refine evR_e hK ?_; clear hK K
  refine hK1 _ ?_
  refine tr_seq fun K2 hK2 => ?_
  refine tr_region [2] rfl rfl fun K hK => ?_
  iterate 4 refine evR_p ?_
  refine evR_e hK ?_; clear hK K
  refine hK2 _ ?_
  refine tr_ret ?_
  (try simp only [thenE, inBlkE])
  simp (maxSteps := 4000000) (disch := first | assumption | omega | (simp only [go_sem, *]; done) | (simp only [go_sem, *]; omega)) only [postA, postO, resV1, fzAll, go_sem, hq, Int.reduceToNat, Nat.reduceBEq, Nat.reduceEqDiff, Nat.reduceAdd, Nat.reduceMul, Nat.reduceLeDiff, Nat.reduceLT, Nat.reduceSub, ↓reduceIte, reduceCtorEq]
  all_goals (simp)

theorem c70 (x y : Int) : CallsA Tryd.prog 73 [.int .i64 x, .int .i64 y] (.bool (decide (x < y))) := by
  have hq : True := trivial
  refine callsA_of_tr Tryd.func73 rfl (Nat.le_of_ble_eq_true rfl) ?_
  simp only [Tryd.results73, envOf, Nat.reduceAdd]
  refine tr_seq fun K1 hK1 => ?_
  refine tr_region [0, 1] rfl rfl fun K hK => ?_
  refine evR_p ?_
  refine evR_e hK ?_; clear hK K
  refine hK1 _ ?_
  refine tr_seq fun K2 hK2 => ?_
  refine tr_region [4] rfl rfl fun K hK => ?_
  refine evR_p ?_
  refine evR_c (hc := (c74 _)) (k := ?_)
  refine evR_p ?_
  refine evR_g ?_
  refine evR_gc (hc := (c74 _)) (k := ?_)
  refine evR_g ?_
  iterate 2 refine evR_p ?_
  iterate 3 refine evR_g ?_
  iterate 2 refine evR_p ?_
  refine evR_e hK ?_; clear hK K
  refine hK2 _ ?_
  refine tr_ret ?_
  (try simp only [thenE, inBlkE])
  simp (maxSteps := 4000000) (disch := first | assumption | omega | (simp only [go_sem, *]; done) | (simp only [go_sem, *]; omega)) only [postA, postO, resV1, fzAll, go_sem, hq, Int.reduceToNat, Nat.reduceBEq, Nat.reduceEqDiff, Nat.reduceAdd, Nat.reduceMul, Nat.reduceLeDiff, Nat.reduceLT, Nat.reduceSub, ↓reduceIte, reduceCtorEq]
  all_goals (simp)

theorem c57 (l : List Int) (t : Int) (hs : srt l) (hm : l.length ≤ 1000) : CallsA Tryd.prog 54 [.sl 1 (encI l), .int .i64 t] (.tup [.int .i64 (cntL l t : Nat), .bool (decide (t ∈ l))]) := by
  have hq : True := trivial
  refine callsA_of_tr Tryd.func54 rfl (Nat.le_of_ble_eq_true rfl) ?_
  simp only [Tryd.results54, envOf, Nat.reduceAdd]
  refine tr_seq fun K1 hK1 => ?_
  refine tr_region [0, 1] rfl rfl fun K hK => ?_
  iterate 2 refine evR_p ?_
  refine evR_e hK ?_; clear hK K
  refine hK1 _ ?_
  refine tr_seq fun K2 hK2 => ?_
  refine tr_region [0, 1, 6] rfl rfl fun K hK => ?_
  iterate 3 refine evR_p ?_
  refine evR_e hK ?_; clear hK K
  refine hK2 _ ?_
  refine tr_seq fun K3 hK3 => ?_
  refine tr_region [0, 1, 6, 7, 8] rfl rfl fun K hK => ?_
  iterate 3 refine evR_p ?_
  refine evR_e hK ?_; clear hK K
  refine hK3 _ ?_
  refine tr_seq fun K4 hK4 => ?_
  refine tr_block ?_
  -- loop 1: live [0, 1, 6, 7, 8]
  refine tr_loopW (fun m σ => ∃ i j : Nat, j = i + m ∧ j ≤ l.length ∧ (∀ k, k < i → l.getD k 0 < t) ∧ (∀ k, j ≤ k → k < l.length → t ≤ l.getD k 0) ∧ σ = ⟨[(0, .sl 1 (encI l)), (1, .int .i64 t), (6, .int .i64 l.length), (7, .int .i64 (i : Nat)), (8, .int .i64 (j : Nat))], [], 0⟩) (l.length) ?_ ?_
  · exact ⟨_, Wk.refl _, 0, l.length, by omega, Nat.le_refl _, (by intro k hk; omega), (by intro k hk hl; omega), rfl⟩
  · rintro m σ ⟨i, j, hj, hjl, hlo, hhi, rfl⟩ KL1 hKL1
    refine tr_seq fun K5 hK5 => ?_
    refine tr_seq fun K6 hK6 => ?_
    refine tr_region [0, 1, 6, 7, 8, 15] rfl rfl fun K hK => ?_
    iterate 3 refine evR_p ?_
    refine evR_e hK ?_; clear hK K
    refine hK6 _ ?_
    refine tr_condB (fun ht1 => ?_) (fun ht1 => ?_)
    · skip
      have hij : i < j := by omega
      obtain ⟨hw1, hw2, hw3, hw4⟩ := mid_u (i := i) (j := j) (by omega)
      have hml : (i + j) / 2 < l.length := by omega
      have hms : i ≤ (i + j) / 2 ∧ (i + j) / 2 < j := by omega
      replace hq := And.intro hq (And.intro hw1 (And.intro hw2 (And.intro hw3 (And.intro hw4 (hml)))))
      refine tr_skip ?_
      (try simp only [thenE, inBlkE])
      refine hK5 _ ?_
      refine tr_block ?_
      refine tr_seq fun K7 hK7 => ?_
      refine tr_region [0, 1, 6, 7, 8, 9] rfl rfl fun K hK => ?_
      iterate 7 refine evR_p ?_
      refine evR_e hK ?_; clear hK K
      refine hK7 _ ?_
      refine tr_seq fun K8 hK8 => ?_
      refine tr_region [0, 1, 6, 7, 8, 9, 27] rfl rfl fun K hK => ?_
      iterate 5 refine evR_p ?_
      refine evR_c (hc := (c70 _ _)) (k := ?_)
      refine evR_e hK ?_; clear hK K
      refine hK8 _ ?_
      refine tr_condB (fun ht2 => ?_) (fun ht2 => ?_)
      · skip
        refine tr_region [0, 1, 6, 7, 8] rfl rfl fun K hK => ?_
        iterate 3 refine evR_p ?_
        refine evR_e hK ?_; clear hK K
        refine hKL1 _ ?_
        first
          | exact ⟨j - ((i + j) / 2 + 1), _, by omega, Wk.refl _, (i + j) / 2 + 1, j, by omega, hjl, (fun k hk => Int.lt_of_le_of_lt (srt_le hs (by omega) hml) (by assumption)), hhi, by rw [w64 (x := (((i + j) / 2 : Nat) : Int) + 1) (by omega)]; rfl⟩
          | exact ⟨(i + j) / 2 - i, _, by omega, Wk.refl _, i, (i + j) / 2, by omega, by omega, hlo, (fun k hk hkl => Int.le_trans (Int.not_lt.1 (by assumption)) (srt_le hs hk hkl)), rfl⟩
      · skip
        refine tr_region [0, 1, 6, 7, 8] rfl rfl fun K hK => ?_
        iterate 2 refine evR_p ?_
        refine evR_e hK ?_; clear hK K
        refine hKL1 _ ?_
        first
          | exact ⟨j - ((i + j) / 2 + 1), _, by omega, Wk.refl _, (i + j) / 2 + 1, j, by omega, hjl, (fun k hk => Int.lt_of_le_of_lt (srt_le hs (by omega) hml) (by assumption)), hhi, by rw [w64 (x := (((i + j) / 2 : Nat) : Int) + 1) (by omega)]; rfl⟩
          | exact ⟨(i + j) / 2 - i, _, by omega, Wk.refl _, i, (i + j) / 2, by omega, by omega, hlo, (fun k hk hkl => Int.le_trans (Int.not_lt.1 (by assumption)) (srt_le hs hk hkl)), rfl⟩
    · skip
      have hij : m = 0 := by omega
      subst hij
      refine tr_exit ?_
      simp only [thenE, inBlkE, Nat.reduceEqDiff, ↓reduceIte]
      refine hK4 _ ?_
      refine tr_seq fun K9 hK9 => ?_
      refine tr_region [4, 5] rfl rfl fun K hK => ?_
      iterate 5 refine evR_p ?_
      iterate 11 refine evR_g ?_
      refine evR_gc (hc := (c71 _)) (k := ?_)
      iterate 2 refine evR_g ?_
      refine evR_gc (hc := (c71 _)) (k := ?_)
      iterate 2 refine evR_g ?_
      iterate 3 refine evR_p ?_
      refine evR_e hK ?_; clear hK K
      refine hK9 _ ?_
      refine tr_ret ?_
      (try simp only [thenE, inBlkE])
      simp (maxSteps := 4000000) (disch := first | assumption | omega | (simp only [go_sem, *]; done) | (simp only [go_sem, *]; omega)) only [postA, postO, resV1, fzAll, go_sem, hq, Int.reduceToNat, Nat.reduceBEq, Nat.reduceEqDiff, Nat.reduceAdd, Nat.reduceMul, Nat.reduceLeDiff, Nat.reduceLT, Nat.reduceSub, ↓reduceIte, reduceCtorEq]
      all_goals (exact bs_res hs (by omega) (by omega) hlo hhi)

end Go.Proofs.YtgmgifmfhpoglaaDoor


namespace Go.Proofs.YtgmgifmfhpoglaaDoor
open Go.RowKit
set_option linter.unusedVariables false
set_option linter.unusedSimpArgs false
set_option maxRecDepth 100000
attribute [local go_sem] Nat.zero_add Nat.add_zero Nat.mul_one eq_self ne_eq not_true_eq_false not_false_eq_true decide_true decide_false decide_not Bool.false_eq_true List.filter_cons List.filter_nil true_and and_true beq_false beq_true Bool.not_true Bool.not_false Bool.and_true Bool.true_and Option.getD_some Option.getD_none imp_self implies_true Int.toNat_natCast List.cons_append List.nil_append List.map_cons List.map_nil List.length_cons List.length_nil List.getD_cons_zero List.getD_cons_succ List.drop_zero List.drop_succ_cons List.take_succ_cons List.take_zero
attribute [local go_sem] isE isO stpO notIn St.bare evO evDO isEff stp St.get St.slot St.put List.lookup un unL ofVal gof nth pickV pkB_false pkB_true binV unV loadV idxV fldV partV buildV fillV lenV sliV appV appR rowsV winV V.parts V.okp V.sc Mem.look_cons Mem.look_nil V.cl V.clL AObj.clo fzAll exps St.fz Mem.fz V.fz V.fzL AObj.fz Option.isSome_some Option.isSome_none Bool.or_true Bool.true_or Bool.or_false Bool.false_or false_and and_false false_or or_false arT_26 arT_27 arT_23 arT_22 arT_31 arT_45 arT_38 arT_55     boolT_23 boolT_3 boolT_32 boolT_4  flatT_23 flatT_3 flatT_32 flatT_4  intT_3 intT_81 lay_27 lay_23 lay_54 lay_22 lay_25 lay_3 lay_37 lay_45 lay_47 lay_4     lay_88 lay_61  okF_11 okF_18  okF_28     okF_16 okF_47 okF_60     okF_26 okF_61    okF_29       okF_31 okF_48 okF_49  okF_50 okF_51 okF_79    okF_63 okF_64 okF_65 okF_52  okF_66 okF_77 okF_78 okF_45  okF_46 okF_53 okF_54 okF_67 okF_68  okF_69 okF_70 okF_71 okF_72   okF_82 okF_83 okF_84 okF_85  okF_73 okF_74 okF_87 okF_88 okF_86 okF_89   plT_54 plT_25 plT_47 plT_96 plT_93 slT_26 slT_27 slT_23 slT_22 slT_31 slT_45 slT_38 slT_55    slT_94     stT_54_4 stT_54_5 stT_25_0 stT_25_1 stT_25_2 stT_47_0  stT_47_2 stT_47_3  stT_96_1 stT_96_2    zeroT_23 zeroT_54 zeroT_25 zeroT_3 zeroT_37 zeroT_45 zeroT_47 zeroT_55  zeroT_96 zeroT_93
attribute [local go_sem] List.getElem?_cons_zero List.getElem?_cons_succ List.zip_cons_cons List.zip_nil_left List.zip_nil_right Bool.false_and Bool.and_false List.length_append List.length_set List.length_replicate List.all_cons List.all_nil encI_length encI_getD encR_length encR_getD encRw encPg spl shp AObj.shp rowM isSt isRpS isRd csh AObj.csh forall_const imp_self
attribute [local simp] encI_length encR_length
theorem c56a  : CallsA Tryd.prog 53 [.sl 1 []] (.sl 1 []) := by
  have hq : True := trivial
  refine callsA_of_trL Tryd.func53 rfl (Nat.le_of_ble_eq_true rfl) ?_
  simp only [Tryd.results53, envOf, Nat.reduceAdd]
  refine tr_seq fun K1 hK1 => ?_
  refine tr_region [0] rfl rfl fun K hK => ?_
  refine evR_p ?_
  refine evR_e hK ?_; clear hK K
  refine hK1 _ ?_
  refine tr_seq fun K2 hK2 => ?_
  refine tr_seq fun K3 hK3 => ?_
  refine tr_region [0, 4] rfl rfl fun K hK => ?_
  iterate 2 refine evR_p ?_
  refine evR_e hK ?_; clear hK K
  refine hK3 _ ?_
  refine tr_cond_ub rfl ?_ ?_
  · skip
    refine tr_seq fun K4 hK4 => ?_
    refine tr_region [2] rfl rfl fun K hK => ?_
    refine evR_p ?_
    refine evR_e hK ?_; clear hK K
    refine hK4 _ ?_
    refine tr_ret ?_
    (try simp only [thenE, inBlkE])
    simp (maxSteps := 4000000) (disch := first | assumption | omega | (simp only [go_sem, *]; done) | (simp only [go_sem, *]; omega)) only [postA, postO, resV1, fzAll, go_sem, hq, Int.reduceToNat, Nat.reduceBEq, Nat.reduceEqDiff, Nat.reduceAdd, Nat.reduceMul, Nat.reduceLeDiff, Nat.reduceLT, Nat.reduceSub, ↓reduceIte, reduceCtorEq]
    all_goals (first | exact .nsl _ | exact .refl _)
  · skip
    refine tr_skip ?_
    (try simp only [thenE, inBlkE])
    refine hK2 _ ?_
    refine tr_seq fun K5 hK5 => ?_
    refine tr_region [2] rfl rfl fun K hK => ?_
    refine evR_bo ?_
    iterate 3 refine evR_p ?_
    refine evR_e hK ?_; clear hK K
    refine hK5 _ ?_
    refine tr_ret ?_
    (try simp only [thenE, inBlkE])
    simp (maxSteps := 4000000) (disch := first | assumption | omega | (simp only [go_sem, *]; done) | (simp only [go_sem, *]; omega)) only [postA, postO, resV1, fzAll, go_sem, hq, Int.reduceToNat, Nat.reduceBEq, Nat.reduceEqDiff, Nat.reduceAdd, Nat.reduceMul, Nat.reduceLeDiff, Nat.reduceLT, Nat.reduceSub, ↓reduceIte, reduceCtorEq]
    all_goals (first | exact .nsl _ | exact .refl _)

section
attribute [local go_sem] List.replicate_zero
theorem c56b (a : Int) (l : List Int) (hm : l.length ≤ 1000) : CallsA Tryd.prog 53 [.sl 1 ([V.int .i64 a] :: encI l)] (.sl 1 ([V.int .i64 a] :: encI l)) := by
  have hq : True := trivial
  refine callsA_of_tr Tryd.func53 rfl (Nat.le_of_ble_eq_true rfl) ?_
  simp only [Tryd.results53, envOf, Nat.reduceAdd]
  refine tr_seq fun K1 hK1 => ?_
  refine tr_region [0] rfl rfl fun K hK => ?_
  refine evR_p ?_
  refine evR_e hK ?_; clear hK K
  refine hK1 _ ?_
  refine tr_seq fun K2 hK2 => ?_
  refine tr_seq fun K3 hK3 => ?_
  refine tr_region [0, 4] rfl rfl fun K hK => ?_
  iterate 2 refine evR_p ?_
  refine evR_e hK ?_; clear hK K
  refine hK3 _ ?_
  refine tr_condB (fun ht1 => ?_) (fun ht1 => ?_)
  · skip
    refine tr_seq fun K4 hK4 => ?_
    refine tr_region [2] rfl rfl fun K hK => ?_
    refine evR_p ?_
    refine evR_e hK ?_; clear hK K
    refine hK4 _ ?_
    refine tr_ret ?_
    (try simp only [thenE, inBlkE])
    simp (maxSteps := 4000000) (disch := first | assumption | omega | (simp only [go_sem, *]; done) | (simp only [go_sem, *]; omega)) only [postA, postO, resV1, fzAll, go_sem, hq, Int.reduceToNat, Nat.reduceBEq, Nat.reduceEqDiff, Nat.reduceAdd, Nat.reduceMul, Nat.reduceLeDiff, Nat.reduceLT, Nat.reduceSub, ↓reduceIte, reduceCtorEq]
    all_goals (first | (cases ht1; done) | rfl)
  · skip
    refine tr_skip ?_
    (try simp only [thenE, inBlkE])
    refine hK2 _ ?_
    refine tr_seq fun K5 hK5 => ?_
    refine tr_region [2] rfl rfl fun K hK => ?_
    refine evR_bo ?_
    iterate 3 refine evR_p ?_
    refine evR_e hK ?_; clear hK K
    refine hK5 _ ?_
    refine tr_ret ?_
    (try simp only [thenE, inBlkE])
    simp (maxSteps := 4000000) (disch := first | assumption | omega | (simp only [go_sem, *]; done) | (simp only [go_sem, *]; omega)) only [postA, postO, resV1, fzAll, go_sem, hq, Int.reduceToNat, Nat.reduceBEq, Nat.reduceEqDiff, Nat.reduceAdd, Nat.reduceMul, Nat.reduceLeDiff, Nat.reduceLT, Nat.reduceSub, ↓reduceIte, reduceCtorEq]
    all_goals (first | (cases ht1; done) | rfl)
end
theorem c56 (l : List Int) (hm : l.length ≤ 1000) : CallsA Tryd.prog 53 [.sl 1 (encI l)] (.sl 1 (encI l)) := by
  cases l with
  | nil => exact c56a
  | cons a l => exact c56b a l (by simp at hm; omega)

end Go.Proofs.YtgmgifmfhpoglaaDoor


namespace Go.Proofs.YtgmgifmfhpoglaaDoor
open Go.RowKit
set_option linter.unusedVariables false
set_option linter.unusedSimpArgs false
set_option maxRecDepth 100000
attribute [local go_sem] Nat.zero_add Nat.add_zero Nat.mul_one eq_self ne_eq not_true_eq_false not_false_eq_true decide_true decide_false decide_not Bool.false_eq_true List.filter_cons List.filter_nil true_and and_true beq_false beq_true Bool.not_true Bool.not_false Bool.and_true Bool.true_and Option.getD_some Option.getD_none imp_self implies_true Int.toNat_natCast List.cons_append List.nil_append List.map_cons List.map_nil List.length_cons List.length_nil List.getD_cons_zero List.getD_cons_succ List.drop_zero List.drop_succ_cons List.take_succ_cons List.take_zero
attribute [local go_sem] isE isO stpO notIn St.bare evO evDO isEff stp St.get St.slot St.put List.lookup un unL ofVal gof nth pickV pkB_false pkB_true binV unV loadV idxV fldV partV buildV fillV lenV sliV appV appR rowsV winV V.parts V.okp V.sc Mem.look_cons Mem.look_nil V.cl V.clL AObj.clo fzAll exps St.fz Mem.fz V.fz V.fzL AObj.fz Option.isSome_some Option.isSome_none Bool.or_true Bool.true_or Bool.or_false Bool.false_or false_and and_false false_or or_false arT_26 arT_27 arT_23 arT_22 arT_31 arT_45 arT_38 arT_55     boolT_23 boolT_3 boolT_32 boolT_4  flatT_23 flatT_3 flatT_32 flatT_4  intT_3 intT_81 lay_27 lay_23 lay_54 lay_22 lay_25 lay_3 lay_37 lay_45 lay_47 lay_4     lay_88 lay_61  okF_11 okF_18  okF_28     okF_16 okF_47 okF_60     okF_26 okF_61    okF_29       okF_31 okF_48 okF_49  okF_50 okF_51 okF_79    okF_63 okF_64 okF_65 okF_52  okF_66 okF_77 okF_78 okF_45  okF_46 okF_53 okF_54 okF_67 okF_68  okF_69 okF_70 okF_71 okF_72   okF_82 okF_83 okF_84 okF_85  okF_73 okF_74 okF_87 okF_88 okF_86 okF_89   plT_54 plT_25 plT_47 plT_96 plT_93 slT_26 slT_27 slT_23 slT_22 slT_31 slT_45 slT_38 slT_55    slT_94     stT_54_4 stT_54_5 stT_25_0 stT_25_1 stT_25_2 stT_47_0  stT_47_2 stT_47_3  stT_96_1 stT_96_2    zeroT_23 zeroT_54 zeroT_25 zeroT_3 zeroT_37 zeroT_45 zeroT_47 zeroT_55  zeroT_96 zeroT_93
attribute [local go_sem] List.getElem?_cons_zero List.getElem?_cons_succ List.zip_cons_cons List.zip_nil_left List.zip_nil_right Bool.false_and Bool.and_false List.length_append List.length_set List.length_replicate List.all_cons List.all_nil encI_length encI_getD encR_length encR_getD encRw encPg spl shp AObj.shp rowM isSt isRpS isRd csh AObj.csh forall_const imp_self
attribute [local simp] encI_length encR_length
section
attribute [local go_sem] encR_one
set_option maxHeartbeats 4000000 in
theorem c30 (p : Pg) (hr : p.rows.length ≤ maxLen) (hg : p.gain.length ≤ maxLen) (hc : ∀ r ∈ p.rows, r.coef.length ≤ maxLen) (rows : List Int) (hw : rows.length ≤ maxLen) : CallsA Tryd.prog 29 [.agg (encPg p), .sl 1 (encI rows)] (.tup (wthV p rows)) := by
  unfold maxLen at hw
  have hr0 := hr
  unfold maxLen at hr0
  have hq : True := trivial
  refine callsA_of_tr Tryd.func29 rfl (Nat.le_of_ble_eq_true rfl) ?_
  simp only [Tryd.results29, envOf, Nat.reduceAdd]
  refine tr_seq fun K1 hK1 => ?_
  refine tr_region [1, 2, 4] rfl rfl fun K hK => ?_
  iterate 3 refine evR_p ?_
  refine evR_e hK ?_; clear hK K
  refine hK1 _ ?_
  refine tr_seq fun K2 hK2 => ?_
  refine tr_seq fun K3 hK3 => ?_
  refine tr_region [1, 2, 4, 13, 14, 15] rfl rfl fun K hK => ?_
  iterate 3 refine evR_p ?_
  refine evR_e hK ?_; clear hK K
  refine hK3 _ ?_
  refine tr_block ?_
  -- loop 1: live [1, 2, 4, 13, 14, 15]
  refine tr_loopW (fun m σ => ∃ i : Nat, i + m = rows.length ∧ okTo p rows i = true ∧ σ = ⟨[(1, .sl 1 (encI rows)), (2, .ptr 0 0), (4, .ptr 1 0), (13, .sl 1 (encI rows)), (14, .int .i64 rows.length), (15, .int .i64 (i : Nat))], [(1, .cells [.int .i64 0, .nsl, .nsl]), (0, .cells (encPg p))], 2⟩) (rows.length) ?_ ?_
  · exact ⟨_, Wk.refl _, 0, by omega, rfl, rfl⟩
  · rintro m σ ⟨i, hi, hk, rfl⟩ KL1 hKL1
    refine tr_seq fun K4 hK4 => ?_
    refine tr_region [1, 2, 4, 13, 14, 15, 16] rfl rfl fun K hK => ?_
    refine evR_p ?_
    refine evR_e hK ?_; clear hK K
    refine hK4 _ ?_
    refine tr_seq fun K5 hK5 => ?_
    refine tr_condB (fun ht1 => ?_) (fun ht1 => ?_)
    · skip
      have hil : i < rows.length := by omega
      have hwi : 0 < (i : Int) → IntKind.i64.wrap ((i : Int) - 1) = ((i - 1 : Nat) : Int) := fun h => by rw [w64 (by omega)]; omega
      replace hq := And.intro hq (And.intro hil (hwi))
      refine tr_skip ?_
      (try simp only [thenE, inBlkE])
      refine hK5 _ ?_
      refine tr_seq fun K6 hK6 => ?_
      refine tr_block ?_
      refine tr_seq fun K7 hK7 => ?_
      refine tr_region [1, 2, 4, 6, 7, 13, 14, 15] rfl rfl fun K hK => ?_
      iterate 5 refine evR_p ?_
      refine evR_e hK ?_; clear hK K
      refine hK7 _ ?_
      refine tr_seq fun K8 hK8 => ?_
      refine tr_region [1, 2, 4, 13, 14, 15, 39] rfl rfl fun K hK => ?_
      iterate 5 refine evR_p ?_
      refine evR_c (hc := (c49 _ _ _)) (k := ?_)
      iterate 2 refine evR_p ?_
      iterate 11 refine evR_g ?_
      refine evR_p ?_
      refine evR_e hK ?_; clear hK K
      refine hK8 _ ?_
      refine tr_condB (fun ht2 => ?_) (fun ht2 => ?_)
      · skip
        refine tr_seq fun K9 hK9 => ?_
        refine tr_region [4, 5] rfl rfl fun K hK => ?_
        iterate 3 refine evR_p ?_
        refine evR_e hK ?_; clear hK K
        refine hK9 _ ?_
        refine tr_ret ?_
        (try simp only [thenE, inBlkE])
        simp (maxSteps := 4000000) (disch := first | assumption | omega | (simp only [go_sem, *]; done) | (simp only [go_sem, *]; omega)) only [postA, postO, resV1, fzAll, go_sem, hq, Int.reduceToNat, Nat.reduceBEq, Nat.reduceEqDiff, Nat.reduceAdd, Nat.reduceMul, Nat.reduceLeDiff, Nat.reduceLT, Nat.reduceSub, ↓reduceIte, reduceCtorEq]
        all_goals (first | (rw [wthV_t hk (by assumption)]; rfl) | (rw [wthV_f2 (by assumption)]; done) | (rw [wthV_f1 (okTo_f hil (idx_no ht2))]; done))
      · skip
        refine tr_skip ?_
        (try simp only [thenE, inBlkE])
        refine hK6 _ ?_
        refine tr_region [1, 2, 4, 13, 14, 15] rfl rfl fun K hK => ?_
        iterate 2 refine evR_p ?_
        refine evR_e hK ?_; clear hK K
        refine hKL1 _ ?_
        exact ⟨m - 1, _, by omega, Wk.cut 2 rfl, i + 1, by omega, okTo_t hk (idx_fin ht2), by rw [w64 (x := (i : Int) + 1) (by omega)]; rfl⟩
    · skip
      have hil : i = rows.length := by omega
      subst hil
      refine tr_exit ?_
      simp only [thenE, inBlkE, Nat.reduceEqDiff, ↓reduceIte]
      refine hK2 _ ?_
      refine tr_seq fun K10 hK10 => ?_
      refine tr_seq fun K11 hK11 => ?_
      refine tr_region [1, 2, 4, 44] rfl rfl fun K hK => ?_
      refine evR_p ?_
      refine evR_c (hc := (c20 p hr hg hc)) (k := ?_)
      refine evR_p ?_
      refine evR_e hK ?_; clear hK K
      refine hK11 _ ?_
      refine tr_condB (fun ht3 => ?_) (fun ht3 => ?_)
      · skip
        refine tr_seq fun K12 hK12 => ?_
        refine tr_region [4, 5] rfl rfl fun K hK => ?_
        iterate 3 refine evR_p ?_
        refine evR_e hK ?_; clear hK K
        refine hK12 _ ?_
        refine tr_ret ?_
        (try simp only [thenE, inBlkE])
        simp (maxSteps := 4000000) (disch := first | assumption | omega | (simp only [go_sem, *]; done) | (simp only [go_sem, *]; omega)) only [postA, postO, resV1, fzAll, go_sem, hq, Int.reduceToNat, Nat.reduceBEq, Nat.reduceEqDiff, Nat.reduceAdd, Nat.reduceMul, Nat.reduceLeDiff, Nat.reduceLT, Nat.reduceSub, ↓reduceIte, reduceCtorEq]
        all_goals (first | (rw [wthV_t hk (by assumption)]; rfl) | (rw [wthV_f2 (by assumption)]; done) | (rw [wthV_f1 (okTo_f hil (idx_no ht2))]; done))
      · skip
        refine tr_skip ?_
        (try simp only [thenE, inBlkE])
        refine hK10 _ ?_
        refine tr_seq fun K13 hK13 => ?_
        refine tr_fz [.ptr 0 0] (by simp (maxSteps := 4000000) (disch := first | assumption | omega | (simp only [go_sem, *]; done) | (simp only [go_sem, *]; omega)) only [go_sem, hq, Int.reduceToNat, Nat.reduceBEq, Nat.reduceEqDiff, Nat.reduceAdd, Nat.reduceMul, Nat.reduceLeDiff, Nat.reduceLT, Nat.reduceSub, ↓reduceIte, reduceCtorEq]; (try rfl)) ?_
        refine tr_draw [47, 49] [1, 2, 4, 8] mixed rfl (by kernel_rfl) rfl fun K hK => ?_
        iterate 4 refine evD_p ?_
        refine evD_c (hc := (c56 p.gain (gain_1000 (by assumption)))) (k := ?_)
        iterate 3 refine evD_p ?_
        refine evD_e hK ?_; clear hK K
        refine hK13 _ ?_
        refine tr_seq fun K14 hK14 => ?_
        refine tr_seq fun K15 hK15 => ?_
        refine tr_region [1, 4, 8, 53, 54, 55] rfl rfl fun K hK => ?_
        iterate 4 refine evR_p ?_
        refine evR_e hK ?_; clear hK K
        refine hK15 _ ?_
        refine tr_block ?_
        -- loop 2: live [1, 4, 8, 53, 54, 55]
        refine tr_loopW (fun m σ => ∃ i : Nat, i + m = p.rows.length ∧ σ = ⟨[(1, .sl 1 (encI rows)), (4, .ptr 1 0), (8, .ptr 2 0), (53, .sl 6 (encR p.rows)), (54, .int .i64 p.rows.length), (55, .int .i64 (i : Nat))], [(3, .row 54 6 (encR (keepTo p rows i))), (2, .cells [.int .i64 p.vars, .own 3, .sl 1 (encI p.gain)]), (1, .cells [.int .i64 0, .nsl, .nsl])], 4⟩) (p.rows.length) ?_ ?_
        · exact ⟨_, (Wk.nilown 54 6 2 1 rfl (Nat.le_of_ble_eq_true rfl) rfl), 0, by omega, rfl⟩
        · rintro m σ ⟨i, hi, rfl⟩ KL2 hKL2
          refine tr_seq fun K16 hK16 => ?_
          refine tr_region [1, 4, 8, 53, 54, 55, 56] rfl rfl fun K hK => ?_
          refine evR_p ?_
          refine evR_e hK ?_; clear hK K
          refine hK16 _ ?_
          refine tr_seq fun K17 hK17 => ?_
          refine tr_condB (fun ht4 => ?_) (fun ht4 => ?_)
          · skip
            have hil : i < p.rows.length := by omega
            have hkl := keepTo_length p rows i
            have hr3 : p.rows.length ≤ 300 := (validB_all (p := p) (by assumption)).2.2.1
            replace hq := And.intro hq (hil)
            refine tr_skip ?_
            (try simp only [thenE, inBlkE])
            refine hK17 _ ?_
            refine tr_seq fun K18 hK18 => ?_
            refine tr_block ?_
            refine tr_seq fun K19 hK19 => ?_
            refine tr_region [1, 4, 8, 9, 10, 53, 54, 55] rfl rfl fun K hK => ?_
            iterate 6 refine evR_p ?_
            refine evR_e hK ?_; clear hK K
            refine hK19 _ ?_
            refine tr_seq fun K20 hK20 => ?_
            refine tr_region [1, 4, 8, 10, 12, 53, 54, 55] rfl rfl fun K hK => ?_
            iterate 2 refine evR_p ?_
            refine evR_c (hc := (c57 rows (i : Nat) (okRows_srt (p := p) hk) (okRows_1000 (p := p) hk (by assumption)))) (k := ?_)
            iterate 5 refine evR_p ?_
            refine evR_e hK ?_; clear hK K
            refine hK20 _ ?_
            refine tr_seq fun K21 hK21 => ?_
            refine tr_region [1, 4, 8, 10, 53, 54, 55, 67] rfl rfl fun K hK => ?_
            iterate 2 refine evR_p ?_
            refine evR_e hK ?_; clear hK K
            refine hK21 _ ?_
            refine tr_condB (fun ht5 => ?_) (fun ht5 => ?_)
            · skip
              refine tr_seq fun K22 hK22 => ?_
              refine tr_region [1, 4, 8, 10, 53, 54, 55] rfl rfl fun K hK => ?_
              iterate 2 refine evR_p ?_
              refine evR_c (hc := (c56 (p.rows.getD i rw0).coef (coef_1000 (p := p) (by assumption) hil))) (k := ?_)
              iterate 2 refine evR_p ?_
              refine evR_e hK ?_; clear hK K
              refine hK22 _ ?_
              refine tr_region [1, 4, 8, 53, 54, 55] rfl rfl fun K hK => ?_
              iterate 3 refine evR_p ?_
              refine evR_bs ?_
              iterate 3 refine evR_p ?_
              refine evR_e hK ?_; clear hK K
              refine hK18 _ ?_
              refine tr_region [1, 4, 8, 53, 54, 55] rfl rfl fun K hK => ?_
              iterate 2 refine evR_p ?_
              refine evR_e hK ?_; clear hK K
              refine hKL2 _ ?_
              first
                | exact ⟨m - 1, _, by omega, Wk.cut 4 rfl, i + 1, by omega, by rw [keepTo_t (by assumption), w64 (x := (i : Int) + 1) (by omega)]; rfl⟩
                | exact ⟨m - 1, _, by omega, (Wk.trans (Wk.ren 5 3 (Nat.le_of_ble_eq_true rfl) (Nat.le_of_ble_eq_true rfl) rfl) (Wk.cut 4 rfl)), i + 1, by omega, by rw [w64 (x := (i : Int) + 1) (by omega), keepTo_f (by assumption)]; rfl⟩
            · skip
              refine tr_skip ?_
              (try simp only [thenE, inBlkE])
              refine hK18 _ ?_
              refine tr_region [1, 4, 8, 53, 54, 55] rfl rfl fun K hK => ?_
              iterate 2 refine evR_p ?_
              refine evR_e hK ?_; clear hK K
              refine hKL2 _ ?_
              first
                | exact ⟨m - 1, _, by omega, Wk.cut 4 rfl, i + 1, by omega, by rw [keepTo_t (by assumption), w64 (x := (i : Int) + 1) (by omega)]; rfl⟩
                | exact ⟨m - 1, _, by omega, (Wk.trans (Wk.ren 5 3 (Nat.le_of_ble_eq_true rfl) (Nat.le_of_ble_eq_true rfl) rfl) (Wk.cut 4 rfl)), i + 1, by omega, by rw [w64 (x := (i : Int) + 1) (by omega), keepTo_f (by assumption)]; rfl⟩
          · skip
            have hil : i = p.rows.length := by omega
            subst hil
            refine tr_exit ?_
            simp only [thenE, inBlkE, Nat.reduceEqDiff, ↓reduceIte]
            refine hK14 _ ?_
            refine tr_seq fun K23 hK23 => ?_
            refine tr_region [4, 5] rfl rfl fun K hK => ?_
            iterate 3 refine evR_p ?_
            refine evR_e hK ?_; clear hK K
            refine hK23 _ ?_
            refine tr_ret ?_
            (try simp only [thenE, inBlkE])
            simp (maxSteps := 4000000) (disch := first | assumption | omega | (simp only [go_sem, *]; done) | (simp only [go_sem, *]; omega)) only [postA, postO, resV1, fzAll, go_sem, hq, Int.reduceToNat, Nat.reduceBEq, Nat.reduceEqDiff, Nat.reduceAdd, Nat.reduceMul, Nat.reduceLeDiff, Nat.reduceLT, Nat.reduceSub, ↓reduceIte, reduceCtorEq]
            all_goals (first | (rw [wthV_t hk (by assumption)]; rfl) | (rw [wthV_f2 (by assumption)]; done) | (rw [wthV_f1 (okTo_f hil (idx_no ht2))]; done))
end

end Go.Proofs.YtgmgifmfhpoglaaDoor


namespace Go.Proofs.YtgmgifmfhpoglaaDoor
open Go.RowKit
set_option linter.unusedVariables false
set_option linter.unusedSimpArgs false
set_option maxRecDepth 100000
attribute [local go_sem] Nat.zero_add Nat.add_zero Nat.mul_one eq_self ne_eq not_true_eq_false not_false_eq_true decide_true decide_false decide_not Bool.false_eq_true List.filter_cons List.filter_nil true_and and_true beq_false beq_true Bool.not_true Bool.not_false Bool.and_true Bool.true_and Option.getD_some Option.getD_none imp_self implies_true Int.toNat_natCast List.cons_append List.nil_append List.map_cons List.map_nil List.length_cons List.length_nil List.getD_cons_zero List.getD_cons_succ List.drop_zero List.drop_succ_cons List.take_succ_cons List.take_zero
attribute [local go_sem] isE isO stpO notIn St.bare evO evDO isEff stp St.get St.slot St.put List.lookup un unL ofVal gof nth pickV pkB_false pkB_true binV unV loadV idxV fldV partV buildV fillV lenV sliV appV appR rowsV winV V.parts V.okp V.sc Mem.look_cons Mem.look_nil V.cl V.clL AObj.clo fzAll exps St.fz Mem.fz V.fz V.fzL AObj.fz Option.isSome_some Option.isSome_none Bool.or_true Bool.true_or Bool.or_false Bool.false_or false_and and_false false_or or_false arT_26 arT_27 arT_23 arT_22 arT_31 arT_45 arT_38 arT_55     boolT_23 boolT_3 boolT_32 boolT_4  flatT_23 flatT_3 flatT_32 flatT_4  intT_3 intT_81 lay_27 lay_23 lay_54 lay_22 lay_25 lay_3 lay_37 lay_45 lay_47 lay_4     lay_88 lay_61  okF_11 okF_18  okF_28     okF_16 okF_47 okF_60     okF_26 okF_61    okF_29       okF_31 okF_48 okF_49  okF_50 okF_51 okF_79    okF_63 okF_64 okF_65 okF_52  okF_66 okF_77 okF_78 okF_45  okF_46 okF_53 okF_54 okF_67 okF_68  okF_69 okF_70 okF_71 okF_72   okF_82 okF_83 okF_84 okF_85  okF_73 okF_74 okF_87 okF_88 okF_86 okF_89   plT_54 plT_25 plT_47 plT_96 plT_93 slT_26 slT_27 slT_23 slT_22 slT_31 slT_45 slT_38 slT_55    slT_94     stT_54_4 stT_54_5 stT_25_0 stT_25_1 stT_25_2 stT_47_0  stT_47_2 stT_47_3  stT_96_1 stT_96_2    zeroT_23 zeroT_54 zeroT_25 zeroT_3 zeroT_37 zeroT_45 zeroT_47 zeroT_55  zeroT_96 zeroT_93
attribute [local go_sem] List.getElem?_cons_zero List.getElem?_cons_succ List.zip_cons_cons List.zip_nil_left List.zip_nil_right Bool.false_and Bool.and_false List.length_append List.length_set List.length_replicate List.all_cons List.all_nil encI_length encI_getD encR_length encR_getD encRw encPg spl shp AObj.shp rowM isSt isRpS isRd csh AObj.csh forall_const imp_self
attribute [local simp] encI_length encR_length
theorem c53 (p : Pg) (hr : p.rows.length ≤ maxLen) (hg : p.gain.length ≤ maxLen) (hc : ∀ r ∈ p.rows, r.coef.length ≤ maxLen) (set : Int) : CallsA Tryd.prog 45 [.agg (encPg p), .int .i64 set] (.bool (choiceB p set)) := by
  have hvv := @validB_vars p
  have hq : True := trivial
  refine callsA_of_tr Tryd.func45 rfl (Nat.le_of_ble_eq_true rfl) ?_
  simp only [Tryd.results45, envOf, Nat.reduceAdd]
  refine tr_seq fun K1 hK1 => ?_
  refine tr_region [1, 2] rfl rfl fun K hK => ?_
  iterate 2 refine evR_p ?_
  refine evR_e hK ?_; clear hK K
  refine hK1 _ ?_
  refine tr_seq fun K2 hK2 => ?_
  refine tr_region [4] rfl rfl fun K hK => ?_
  refine evR_p ?_
  refine evR_c (hc := (c20 p hr hg hc)) (k := ?_)
  refine evR_p ?_
  iterate 5 refine evR_g ?_
  refine evR_gc (hc := (c49 _ _ _)) (k := ?_)
  iterate 2 refine evR_p ?_
  refine evR_e hK ?_; clear hK K
  refine hK2 _ ?_
  refine tr_ret ?_
  (try simp only [thenE, inBlkE])
  simp (maxSteps := 4000000) (disch := first | assumption | omega | (simp only [go_sem, *]; done) | (simp only [go_sem, *]; omega)) only [postA, postO, resV1, fzAll, go_sem, hq, Int.reduceToNat, Nat.reduceBEq, Nat.reduceEqDiff, Nat.reduceAdd, Nat.reduceMul, Nat.reduceLeDiff, Nat.reduceLT, Nat.reduceSub, ↓reduceIte, reduceCtorEq]
  all_goals (simp [choiceB])

theorem c19 (a b : List Int) (ha : a.length ≤ maxLen) (hb : b.length ≤ maxLen) : CallsA Tryd.prog 16 [.sl 1 (encI a), .sl 1 (encI b)] (.bool (decide (a = b))) := by
  unfold maxLen at ha hb
  have hq : True := trivial
  refine callsA_of_tr Tryd.func16 rfl (Nat.le_of_ble_eq_true rfl) ?_
  simp only [Tryd.results16, envOf, Nat.reduceAdd]
  refine tr_seq fun K1 hK1 => ?_
  refine tr_region [0, 1] rfl rfl fun K hK => ?_
  refine evR_p ?_
  refine evR_e hK ?_; clear hK K
  refine hK1 _ ?_
  refine tr_seq fun K2 hK2 => ?_
  refine tr_seq fun K3 hK3 => ?_
  refine tr_region [0, 1, 10] rfl rfl fun K hK => ?_
  iterate 5 refine evR_p ?_
  refine evR_e hK ?_; clear hK K
  refine hK3 _ ?_
  refine tr_condB (fun ht1 => ?_) (fun ht1 => ?_)
  · skip
    refine tr_seq fun K4 hK4 => ?_
    refine tr_region [4] rfl rfl fun K hK => ?_
    refine evR_p ?_
    refine evR_e hK ?_; clear hK K
    refine hK4 _ ?_
    refine tr_ret ?_
    (try simp only [thenE, inBlkE])
    simp (maxSteps := 4000000) (disch := first | assumption | omega | (simp only [go_sem, *]; done) | (simp only [go_sem, *]; omega)) only [postA, postO, resV1, fzAll, go_sem, hq, Int.reduceToNat, Nat.reduceBEq, Nat.reduceEqDiff, Nat.reduceAdd, Nat.reduceMul, Nat.reduceLeDiff, Nat.reduceLT, Nat.reduceSub, ↓reduceIte, reduceCtorEq]
    all_goals ((first | (simp only [V.bool.injEq]; symm; rw [decide_eq_false_iff_not]; exact ne_of_getD (by assumption)) | (simp only [V.bool.injEq]; symm; rw [decide_eq_true_iff]; exact eq_of_take (by omega) he) | (simp only [V.bool.injEq]; symm; rw [decide_eq_false_iff_not]; intro e; subst e; omega)))
  · skip
    refine tr_skip ?_
    (try simp only [thenE, inBlkE])
    refine hK2 _ ?_
    refine tr_seq fun K5 hK5 => ?_
    refine tr_seq fun K6 hK6 => ?_
    refine tr_region [0, 1, 5] rfl rfl fun K hK => ?_
    refine evR_p ?_
    refine evR_e hK ?_; clear hK K
    refine hK6 _ ?_
    refine tr_block ?_
    -- loop 1: live [0, 1, 5]
    refine tr_loopW (fun m σ => ∃ i, i + m = a.length ∧ a.take i = b.take i ∧ σ = ⟨[(0, .sl 1 (encI a)), (1, .sl 1 (encI b)), (5, .int .i64 (i : Nat))], [], 0⟩) (a.length) ?_ ?_
    · exact ⟨_, Wk.refl _, 0, by omega, rfl, rfl⟩
    · rintro m σ ⟨i, hi, he, rfl⟩ KL1 hKL1
      refine tr_seq fun K7 hK7 => ?_
      refine tr_seq fun K8 hK8 => ?_
      refine tr_region [0, 1, 5, 14] rfl rfl fun K hK => ?_
      iterate 4 refine evR_p ?_
      refine evR_e hK ?_; clear hK K
      refine hK8 _ ?_
      refine tr_condB (fun ht2 => ?_) (fun ht2 => ?_)
      · skip
        have hil : i < a.length := by omega
        have hil2 : i < b.length := by omega
        replace hq := And.intro hq (And.intro hil (hil2))
        refine tr_skip ?_
        (try simp only [thenE, inBlkE])
        refine hK7 _ ?_
        refine tr_seq fun K9 hK9 => ?_
        refine tr_block ?_
        refine tr_seq fun K10 hK10 => ?_
        refine tr_draw [] [0, 1, 5, 25] mixed rfl (by kernel_rfl) rfl fun K hK => ?_
        iterate 9 refine evD_p ?_
        refine evD_e hK ?_; clear hK K
        refine hK10 _ ?_
        refine tr_condB (fun ht3 => ?_) (fun ht3 => ?_)
        · skip
          refine tr_seq fun K11 hK11 => ?_
          refine tr_region [4] rfl rfl fun K hK => ?_
          refine evR_p ?_
          refine evR_e hK ?_; clear hK K
          refine hK11 _ ?_
          refine tr_ret ?_
          (try simp only [thenE, inBlkE])
          simp (maxSteps := 4000000) (disch := first | assumption | omega | (simp only [go_sem, *]; done) | (simp only [go_sem, *]; omega)) only [postA, postO, resV1, fzAll, go_sem, hq, Int.reduceToNat, Nat.reduceBEq, Nat.reduceEqDiff, Nat.reduceAdd, Nat.reduceMul, Nat.reduceLeDiff, Nat.reduceLT, Nat.reduceSub, ↓reduceIte, reduceCtorEq]
          all_goals ((first | (simp only [V.bool.injEq]; symm; rw [decide_eq_false_iff_not]; exact ne_of_getD (by assumption)) | (simp only [V.bool.injEq]; symm; rw [decide_eq_true_iff]; exact eq_of_take (by omega) he) | (simp only [V.bool.injEq]; symm; rw [decide_eq_false_iff_not]; intro e; subst e; omega)))
        · skip
          refine tr_skip ?_
          (try simp only [thenE, inBlkE])
          refine hK9 _ ?_
          refine tr_region [0, 1, 5] rfl rfl fun K hK => ?_
          iterate 3 refine evR_p ?_
          refine evR_e hK ?_; clear hK K
          refine hKL1 _ ?_
          exact ⟨m - 1, _, by omega, Wk.refl _, i + 1, by omega, take_one_eq hil hil2 he (by assumption), by rw [w64 (x := (i : Int) + 1) (by omega)]; rfl⟩
      · skip
        have hil : i = a.length := by omega
        subst hil
        refine tr_exit ?_
        simp only [thenE, inBlkE, Nat.reduceEqDiff, ↓reduceIte]
        refine hK5 _ ?_
        refine tr_seq fun K12 hK12 => ?_
        refine tr_region [4] rfl rfl fun K hK => ?_
        refine evR_p ?_
        refine evR_e hK ?_; clear hK K
        refine hK12 _ ?_
        refine tr_ret ?_
        (try simp only [thenE, inBlkE])
        simp (maxSteps := 4000000) (disch := first | assumption | omega | (simp only [go_sem, *]; done) | (simp only [go_sem, *]; omega)) only [postA, postO, resV1, fzAll, go_sem, hq, Int.reduceToNat, Nat.reduceBEq, Nat.reduceEqDiff, Nat.reduceAdd, Nat.reduceMul, Nat.reduceLeDiff, Nat.reduceLT, Nat.reduceSub, ↓reduceIte, reduceCtorEq]
        all_goals ((first | (simp only [V.bool.injEq]; symm; rw [decide_eq_false_iff_not]; exact ne_of_getD (by assumption)) | (simp only [V.bool.injEq]; symm; rw [decide_eq_true_iff]; exact eq_of_take (by omega) he) | (simp only [V.bool.injEq]; symm; rw [decide_eq_false_iff_not]; intro e; subst e; omega)))

theorem c26 (p : Pg) (hr : p.rows.length ≤ maxLen) (hg : p.gain.length ≤ maxLen) (hc : ∀ r ∈ p.rows, r.coef.length ≤ maxLen) (set : Int) : CallsA Tryd.prog 26 [.agg (encPg p), .int .i64 set] (.sl 1 (encI (brokenW p set))) := by
  have hr0 := hr
  unfold maxLen at hr0
  obtain ⟨hv1, hv2⟩ : True ∧ True := ⟨trivial, trivial⟩
  have hq : True := trivial
  refine callsA_of_trL Tryd.func26 rfl (Nat.le_of_ble_eq_true rfl) ?_
  simp only [Tryd.results26, envOf, Nat.reduceAdd]
  refine tr_seq fun K1 hK1 => ?_
  refine tr_region [1, 2] rfl rfl fun K hK => ?_
  iterate 2 refine evR_p ?_
  refine evR_e hK ?_; clear hK K
  refine hK1 _ ?_
  refine tr_seq fun K2 hK2 => ?_
  refine tr_region [1, 2, 5] rfl rfl fun K hK => ?_
  refine evR_p ?_
  refine evR_e hK ?_; clear hK K
  refine hK2 _ ?_
  refine tr_seq fun K3 hK3 => ?_
  refine tr_seq fun K4 hK4 => ?_
  refine tr_region [1, 2, 5, 11] rfl rfl fun K hK => ?_
  iterate 2 refine evR_p ?_
  refine evR_c (hc := (c53 p hr hg hc set)) (k := ?_)
  refine evR_p ?_
  refine evR_e hK ?_; clear hK K
  refine hK4 _ ?_
  refine tr_condB (fun ht1 => ?_) (fun ht1 => ?_)
  · skip
    refine tr_seq fun K5 hK5 => ?_
    refine tr_region [4] rfl rfl fun K hK => ?_
    iterate 2 refine evR_p ?_
    refine evR_e hK ?_; clear hK K
    refine hK5 _ ?_
    refine tr_ret ?_
    (try simp only [thenE, inBlkE])
    simp (maxSteps := 4000000) (disch := first | assumption | omega | (simp only [go_sem, *]; done) | (simp only [go_sem, *]; omega)) only [postA, postO, resV1, fzAll, go_sem, hq, Int.reduceToNat, Nat.reduceBEq, Nat.reduceEqDiff, Nat.reduceAdd, Nat.reduceMul, Nat.reduceLeDiff, Nat.reduceLT, Nat.reduceSub, ↓reduceIte, reduceCtorEq]
    all_goals ((first | (rw [brokenW, if_pos (by assumption), hb0]; exact .nsl _) | (rw [brokenW, if_pos (by assumption)]; exact .refl _) | (rw [brokenW, if_neg (by simp [*])]; exact .nsl _)))
  · skip
    refine tr_skip ?_
    (try simp only [thenE, inBlkE])
    refine hK3 _ ?_
    refine tr_seq fun K6 hK6 => ?_
    refine tr_seq fun K7 hK7 => ?_
    refine tr_region [1, 5, 14, 15, 16] rfl rfl fun K hK => ?_
    iterate 4 refine evR_p ?_
    refine evR_e hK ?_; clear hK K
    refine hK7 _ ?_
    refine tr_block ?_
    -- loop 1: live [1, 5, 14, 15, 16]
    refine tr_loopW (fun m σ => ∃ i, i + m = p.rows.length ∧ ((brkTo p set i = [] ∧ σ = ⟨[(1, .int .i64 set), (5, .nsl), (14, .sl 6 (encR p.rows)), (15, .int .i64 p.rows.length), (16, .int .i64 (i : Nat))], [(0, .cells (encPg p))], 1⟩) ∨ (brkTo p set i ≠ [] ∧ σ = ⟨[(1, .int .i64 set), (5, .own 1), (14, .sl 6 (encR p.rows)), (15, .int .i64 p.rows.length), (16, .int .i64 (i : Nat))], [(1, .row 3 1 (encI (brkTo p set i))), (0, .cells (encPg p))], 2⟩))) (p.rows.length) ?_ ?_
    · exact ⟨_, Wk.refl _, 0, by omega, .inl ⟨rfl, rfl⟩⟩
    · rintro m σ ⟨i, hi, (⟨hb0, rfl⟩ | ⟨hb0, rfl⟩)⟩ KL1 hKL1
      all_goals
        refine tr_seq fun K8 hK8 => ?_
        refine tr_region [1, 5, 14, 15, 16, 17] rfl rfl fun K hK => ?_
        refine evR_p ?_
        refine evR_e hK ?_; clear hK K
        refine hK8 _ ?_
        refine tr_seq fun K9 hK9 => ?_
        refine tr_condB (fun ht2 => ?_) (fun ht2 => ?_)
        · skip
          have hil : i < p.rows.length := by omega
          have hbl := brkTo_length p set i
          have hr3 : p.rows.length ≤ 300 := choiceB_rows (by assumption)
          replace hq := And.intro hq (hil)
          refine tr_skip ?_
          (try simp only [thenE, inBlkE])
          refine hK9 _ ?_
          refine tr_seq fun K10 hK10 => ?_
          refine tr_block ?_
          refine tr_seq fun K11 hK11 => ?_
          refine tr_region [1, 5, 6, 7, 14, 15, 16] rfl rfl fun K hK => ?_
          iterate 6 refine evR_p ?_
          refine evR_e hK ?_; clear hK K
          refine hK11 _ ?_
          refine tr_seq fun K12 hK12 => ?_
          refine tr_region [1, 5, 6, 14, 15, 16, 24] rfl rfl fun K hK => ?_
          iterate 2 refine evR_p ?_
          refine evR_c (hc := (c55 _ (hc _ (getD_mem hil)) set)) (k := ?_)
          refine evR_p ?_
          refine evR_e hK ?_; clear hK K
          refine hK12 _ ?_
          refine tr_condB (fun ht3 => ?_) (fun ht3 => ?_)
          · skip
            refine tr_region [1, 5, 14, 15, 16] rfl rfl fun K hK => ?_
            iterate 2 refine evR_p ?_
            refine evR_bs ?_
            iterate 2 refine evR_p ?_
            refine evR_e hK ?_; clear hK K
            refine hK10 _ ?_
            refine tr_region [1, 5, 14, 15, 16] rfl rfl fun K hK => ?_
            iterate 2 refine evR_p ?_
            refine evR_e hK ?_; clear hK K
            refine hKL1 _ ?_
            first
              | exact ⟨m - 1, _, by omega, Wk.cut 1 rfl, i + 1, by omega, .inl ⟨by rw [brkTo_t (by assumption)]; exact hb0, by rw [w64 (x := (i : Int) + 1) (by omega)]; rfl⟩⟩
              | exact ⟨m - 1, _, by omega, Wk.cut 2 rfl, i + 1, by omega, .inr ⟨by rw [brkTo_t (by assumption)]; exact hb0, by rw [w64 (x := (i : Int) + 1) (by omega), brkTo_t (by assumption)]; rfl⟩⟩
              | exact ⟨m - 1, _, by omega, Wk.trans (Wk.drop (fun k => k != 1)) (Wk.trans (Wk.ren 3 1 (Nat.le_of_ble_eq_true rfl) (Nat.le_of_ble_eq_true rfl) rfl) (Wk.cut 2 rfl)), i + 1, by omega, .inr ⟨by rw [brkTo_f (by assumption)]; simp, by rw [w64 (x := (i : Int) + 1) (by omega), brkTo_f (by assumption), hb0]; rfl⟩⟩
              | exact ⟨m - 1, _, by omega, Wk.trans (Wk.ren 3 1 (Nat.le_of_ble_eq_true rfl) (Nat.le_of_ble_eq_true rfl) rfl) (Wk.cut 2 rfl), i + 1, by omega, .inr ⟨by rw [brkTo_f (by assumption)]; simp, by rw [w64 (x := (i : Int) + 1) (by omega), brkTo_f (by assumption), encI_snoc]; rfl⟩⟩
          · skip
            refine tr_skip ?_
            (try simp only [thenE, inBlkE])
            refine hK10 _ ?_
            refine tr_region [1, 5, 14, 15, 16] rfl rfl fun K hK => ?_
            iterate 2 refine evR_p ?_
            refine evR_e hK ?_; clear hK K
            refine hKL1 _ ?_
            first
              | exact ⟨m - 1, _, by omega, Wk.cut 1 rfl, i + 1, by omega, .inl ⟨by rw [brkTo_t (by assumption)]; exact hb0, by rw [w64 (x := (i : Int) + 1) (by omega)]; rfl⟩⟩
              | exact ⟨m - 1, _, by omega, Wk.cut 2 rfl, i + 1, by omega, .inr ⟨by rw [brkTo_t (by assumption)]; exact hb0, by rw [w64 (x := (i : Int) + 1) (by omega), brkTo_t (by assumption)]; rfl⟩⟩
              | exact ⟨m - 1, _, by omega, Wk.trans (Wk.drop (fun k => k != 1)) (Wk.trans (Wk.ren 3 1 (Nat.le_of_ble_eq_true rfl) (Nat.le_of_ble_eq_true rfl) rfl) (Wk.cut 2 rfl)), i + 1, by omega, .inr ⟨by rw [brkTo_f (by assumption)]; simp, by rw [w64 (x := (i : Int) + 1) (by omega), brkTo_f (by assumption), hb0]; rfl⟩⟩
              | exact ⟨m - 1, _, by omega, Wk.trans (Wk.ren 3 1 (Nat.le_of_ble_eq_true rfl) (Nat.le_of_ble_eq_true rfl) rfl) (Wk.cut 2 rfl), i + 1, by omega, .inr ⟨by rw [brkTo_f (by assumption)]; simp, by rw [w64 (x := (i : Int) + 1) (by omega), brkTo_f (by assumption), encI_snoc]; rfl⟩⟩
        · skip
          have hil : i = p.rows.length := by omega
          subst hil
          refine tr_exit ?_
          simp only [thenE, inBlkE, Nat.reduceEqDiff, ↓reduceIte]
          refine hK6 _ ?_
          refine tr_seq fun K13 hK13 => ?_
          refine tr_region [4] rfl rfl fun K hK => ?_
          iterate 2 refine evR_p ?_
          refine evR_e hK ?_; clear hK K
          refine hK13 _ ?_
          refine tr_ret ?_
          (try simp only [thenE, inBlkE])
          simp (maxSteps := 4000000) (disch := first | assumption | omega | (simp only [go_sem, *]; done) | (simp only [go_sem, *]; omega)) only [postA, postO, resV1, fzAll, go_sem, hq, Int.reduceToNat, Nat.reduceBEq, Nat.reduceEqDiff, Nat.reduceAdd, Nat.reduceMul, Nat.reduceLeDiff, Nat.reduceLT, Nat.reduceSub, ↓reduceIte, reduceCtorEq]
          all_goals ((first | (rw [brokenW, if_pos (by assumption), hb0]; exact .nsl _) | (rw [brokenW, if_pos (by assumption)]; exact .refl _) | (rw [brokenW, if_neg (by simp [*])]; exact .nsl _)))

end Go.Proofs.YtgmgifmfhpoglaaDoor


namespace Go.Proofs.YtgmgifmfhpoglaaDoor
open Go.RowKit
set_option linter.unusedVariables false
set_option linter.unusedSimpArgs false
set_option maxRecDepth 100000
attribute [local go_sem] Nat.zero_add Nat.add_zero Nat.mul_one eq_self ne_eq not_true_eq_false not_false_eq_true decide_true decide_false decide_not Bool.false_eq_true List.filter_cons List.filter_nil true_and and_true beq_false beq_true Bool.not_true Bool.not_false Bool.and_true Bool.true_and Option.getD_some Option.getD_none imp_self implies_true Int.toNat_natCast List.cons_append List.nil_append List.map_cons List.map_nil List.length_cons List.length_nil List.getD_cons_zero List.getD_cons_succ List.drop_zero List.drop_succ_cons List.take_succ_cons List.take_zero
attribute [local go_sem] isE isO stpO notIn St.bare evO evDO isEff stp St.get St.slot St.put List.lookup un unL ofVal gof nth pickV pkB_false pkB_true binV unV loadV idxV fldV partV buildV fillV lenV sliV appV appR rowsV winV V.parts V.okp V.sc Mem.look_cons Mem.look_nil V.cl V.clL AObj.clo fzAll exps St.fz Mem.fz V.fz V.fzL AObj.fz Option.isSome_some Option.isSome_none Bool.or_true Bool.true_or Bool.or_false Bool.false_or false_and and_false false_or or_false arT_26 arT_27 arT_23 arT_22 arT_31 arT_45 arT_38 arT_55     boolT_23 boolT_3 boolT_32 boolT_4  flatT_23 flatT_3 flatT_32 flatT_4  intT_3 intT_81 lay_27 lay_23 lay_54 lay_22 lay_25 lay_3 lay_37 lay_45 lay_47 lay_4     lay_88 lay_61  okF_11 okF_18  okF_28     okF_16 okF_47 okF_60     okF_26 okF_61    okF_29       okF_31 okF_48 okF_49  okF_50 okF_51 okF_79    okF_63 okF_64 okF_65 okF_52  okF_66 okF_77 okF_78 okF_45  okF_46 okF_53 okF_54 okF_67 okF_68  okF_69 okF_70 okF_71 okF_72   okF_82 okF_83 okF_84 okF_85  okF_73 okF_74 okF_87 okF_88 okF_86 okF_89   plT_54 plT_25 plT_47 plT_96 plT_93 slT_26 slT_27 slT_23 slT_22 slT_31 slT_45 slT_38 slT_55    slT_94     stT_54_4 stT_54_5 stT_25_0 stT_25_1 stT_25_2 stT_47_0  stT_47_2 stT_47_3  stT_96_1 stT_96_2    zeroT_23 zeroT_54 zeroT_25 zeroT_3 zeroT_37 zeroT_45 zeroT_47 zeroT_55  zeroT_96 zeroT_93
attribute [local go_sem] List.getElem?_cons_zero List.getElem?_cons_succ List.zip_cons_cons List.zip_nil_left List.zip_nil_right Bool.false_and Bool.and_false List.length_append List.length_set List.length_replicate List.all_cons List.all_nil encI_length encI_getD encR_length encR_getD encRw encPg spl shp AObj.shp rowM isSt isRpS isRd csh AObj.csh forall_const imp_self
attribute [local simp] encI_length encR_length
theorem c40 (p : Pg) (hg : p.gain.length ≤ 1000) (gain : Int) : CallsA Tryd.prog 50 [.agg (encPg p), .int .i64 gain] (.agg (encRw (goalW p gain))) := by
  have hq : True := trivial
  refine callsA_of_tr Tryd.func50 rfl (Nat.le_of_ble_eq_true rfl) ?_
  simp only [Tryd.results50, envOf, Nat.reduceAdd]
  refine tr_seq fun K1 hK1 => ?_
  refine tr_region [1, 2, 4] rfl rfl fun K hK => ?_
  iterate 2 refine evR_p ?_
  refine evR_e hK ?_; clear hK K
  refine hK1 _ ?_
  refine tr_seq fun K2 hK2 => ?_
  refine tr_region [2, 4, 5] rfl rfl fun K hK => ?_
  iterate 6 refine evR_p ?_
  refine evR_e hK ?_; clear hK K
  refine hK2 _ ?_
  refine tr_seq fun K3 hK3 => ?_
  refine tr_seq fun K4 hK4 => ?_
  refine tr_region [4, 5, 13, 14, 15] rfl rfl fun K hK => ?_
  iterate 4 refine evR_p ?_
  refine evR_e hK ?_; clear hK K
  refine hK4 _ ?_
  refine tr_block ?_
  -- loop 1: live [4, 5, 13, 14, 15]
  refine tr_loopW (fun m σ => ∃ i, i + m = p.gain.length ∧ σ = ⟨[(4, .ptr 1 0), (5, .ptr 2 0), (13, .sl 1 (encI p.gain)), (14, .int .i64 p.gain.length), (15, .int .i64 (i : Nat))], [(3, .row 3 1 (encI (negG p.gain i))), (2, .cells [.int .i64 0, .int .i64 0, .int .i64 0, .int .i64 0, .own 3, .int .i64 (IntKind.i64.wrap (0 - IntKind.i64.wrap (gain + 1)))]), (1, .cells [.int .i64 0, .int .i64 0, .int .i64 0, .int .i64 0, .nsl, .int .i64 0]), (0, .cells (encPg p))], 4⟩) (p.gain.length) ?_ ?_
  · exact ⟨_, Wk.nilown 3 1 2 4 rfl (Nat.le_of_ble_eq_true rfl) rfl, 0, by omega, rfl⟩
  · rintro m σ ⟨i, hi, rfl⟩ KL1 hKL1
    refine tr_seq fun K5 hK5 => ?_
    refine tr_region [4, 5, 13, 14, 15, 16] rfl rfl fun K hK => ?_
    refine evR_p ?_
    refine evR_e hK ?_; clear hK K
    refine hK5 _ ?_
    refine tr_seq fun K6 hK6 => ?_
    refine tr_condB (fun ht1 => ?_) (fun ht1 => ?_)
    · skip
      have hil : i < p.gain.length := by omega
      have hnl := negG_length p.gain i
      replace hq := And.intro hq (And.intro hil (hnl))
      refine tr_skip ?_
      (try simp only [thenE, inBlkE])
      refine hK6 _ ?_
      refine tr_seq fun K7 hK7 => ?_
      refine tr_block ?_
      refine tr_seq fun K8 hK8 => ?_
      refine tr_region [4, 5, 7, 13, 14, 15] rfl rfl fun K hK => ?_
      iterate 3 refine evR_p ?_
      refine evR_e hK ?_; clear hK K
      refine hK8 _ ?_
      refine tr_region [4, 5, 13, 14, 15] rfl rfl fun K hK => ?_
      iterate 4 refine evR_p ?_
      refine evR_bs ?_
      iterate 3 refine evR_p ?_
      refine evR_e hK ?_; clear hK K
      refine hK7 _ ?_
      refine tr_region [4, 5, 13, 14, 15] rfl rfl fun K hK => ?_
      iterate 2 refine evR_p ?_
      refine evR_e hK ?_; clear hK K
      refine hKL1 _ ?_
      exact ⟨m - 1, _, by omega, (Wk.trans (Wk.ren 4 3 (Nat.le_of_ble_eq_true rfl) (Nat.le_of_ble_eq_true rfl) rfl) (Wk.cut 4 rfl)), i + 1, by omega, by rw [w64 (x := (i : Int) + 1) (by omega), negG_succ hil, encI_snoc]; rfl⟩
    · skip
      have hil : i = p.gain.length := by omega
      subst hil
      refine tr_exit ?_
      simp only [thenE, inBlkE, Nat.reduceEqDiff, ↓reduceIte]
      refine hK3 _ ?_
      refine tr_seq fun K9 hK9 => ?_
      refine tr_region [4] rfl rfl fun K hK => ?_
      iterate 2 refine evR_p ?_
      refine evR_e hK ?_; clear hK K
      refine hK9 _ ?_
      refine tr_ret ?_
      (try simp only [thenE, inBlkE])
      simp (maxSteps := 4000000) (disch := first | assumption | omega | (simp only [go_sem, *]; done) | (simp only [go_sem, *]; omega)) only [postA, postO, resV1, fzAll, go_sem, hq, Int.reduceToNat, Nat.reduceBEq, Nat.reduceEqDiff, Nat.reduceAdd, Nat.reduceMul, Nat.reduceLeDiff, Nat.reduceLT, Nat.reduceSub, ↓reduceIte, reduceCtorEq]
      all_goals (rfl)

end Go.Proofs.YtgmgifmfhpoglaaDoor


namespace Go.Proofs.YtgmgifmfhpoglaaDoor
open Go.RowKit
set_option linter.unusedVariables false
set_option linter.unusedSimpArgs false
set_option maxRecDepth 100000
attribute [local go_sem] Nat.zero_add Nat.add_zero Nat.mul_one eq_self ne_eq not_true_eq_false not_false_eq_true decide_true decide_false decide_not Bool.false_eq_true List.filter_cons List.filter_nil true_and and_true beq_false beq_true Bool.not_true Bool.not_false Bool.and_true Bool.true_and Option.getD_some Option.getD_none imp_self implies_true Int.toNat_natCast List.cons_append List.nil_append List.map_cons List.map_nil List.length_cons List.length_nil List.getD_cons_zero List.getD_cons_succ List.drop_zero List.drop_succ_cons List.take_succ_cons List.take_zero
attribute [local go_sem] isE isO stpO notIn St.bare evO evDO isEff stp St.get St.slot St.put List.lookup un unL ofVal gof nth pickV pkB_false pkB_true binV unV loadV idxV fldV partV buildV fillV lenV sliV appV appR rowsV winV V.parts V.okp V.sc Mem.look_cons Mem.look_nil V.cl V.clL AObj.clo fzAll exps St.fz Mem.fz V.fz V.fzL AObj.fz Option.isSome_some Option.isSome_none Bool.or_true Bool.true_or Bool.or_false Bool.false_or false_and and_false false_or or_false arT_26 arT_27 arT_23 arT_22 arT_31 arT_45 arT_38 arT_55     boolT_23 boolT_3 boolT_32 boolT_4  flatT_23 flatT_3 flatT_32 flatT_4  intT_3 intT_81 lay_27 lay_23 lay_54 lay_22 lay_25 lay_3 lay_37 lay_45 lay_47 lay_4     lay_88 lay_61  okF_11 okF_18  okF_28     okF_16 okF_47 okF_60     okF_26 okF_61    okF_29       okF_31 okF_48 okF_49  okF_50 okF_51 okF_79    okF_63 okF_64 okF_65 okF_52  okF_66 okF_77 okF_78 okF_45  okF_46 okF_53 okF_54 okF_67 okF_68  okF_69 okF_70 okF_71 okF_72   okF_82 okF_83 okF_84 okF_85  okF_73 okF_74 okF_87 okF_88 okF_86 okF_89   plT_54 plT_25 plT_47 plT_96 plT_93 slT_26 slT_27 slT_23 slT_22 slT_31 slT_45 slT_38 slT_55    slT_94     stT_54_4 stT_54_5 stT_25_0 stT_25_1 stT_25_2 stT_47_0  stT_47_2 stT_47_3  stT_96_1 stT_96_2    zeroT_23 zeroT_54 zeroT_25 zeroT_3 zeroT_37 zeroT_45 zeroT_47 zeroT_55  zeroT_96 zeroT_93
attribute [local go_sem] List.getElem?_cons_zero List.getElem?_cons_succ List.zip_cons_cons List.zip_nil_left List.zip_nil_right Bool.false_and Bool.and_false List.length_append List.length_set List.length_replicate List.all_cons List.all_nil encI_length encI_getD encR_length encR_getD encRw encPg spl shp AObj.shp rowM isSt isRpS isRd csh AObj.csh forall_const imp_self
attribute [local simp] encI_length encR_length
section
attribute [local go_sem] encI_take encI_drop
theorem c63 (r : Rw) (hm : r.coef.length ≤ maxLen) (d : Nat) (set : Int) (hd : d ≤ r.coef.length) : CallsA Tryd.prog 72 [.agg (encRw r), .int .i64 d, .int .i64 set] (.int .i64 (leastW r d set)) := by
  have hm0 := hm
  unfold maxLen at hm0
  have hq : True := trivial
  refine callsA_of_tr Tryd.func72 rfl (Nat.le_of_ble_eq_true rfl) ?_
  simp only [Tryd.results72, envOf, Nat.reduceAdd]
  refine tr_seq fun K1 hK1 => ?_
  refine tr_region [1, 2, 3] rfl rfl fun K hK => ?_
  iterate 2 refine evR_p ?_
  refine evR_e hK ?_; clear hK K
  refine hK1 _ ?_
  refine tr_seq fun K2 hK2 => ?_
  refine tr_region [1, 3, 7] rfl rfl fun K hK => ?_
  iterate 5 refine evR_p ?_
  refine evR_c (hc := (c39 _ _ (by simp only [List.length_take, maxLen]; omega))) (k := ?_)
  refine evR_p ?_
  refine evR_e hK ?_; clear hK K
  refine hK2 _ ?_
  refine tr_seq fun K3 hK3 => ?_
  refine tr_seq fun K4 hK4 => ?_
  refine tr_region [7, 19, 20, 21] rfl rfl fun K hK => ?_
  iterate 6 refine evR_p ?_
  refine evR_e hK ?_; clear hK K
  refine hK4 _ ?_
  refine tr_block ?_
  -- loop 1: live [7, 19, 20, 21]
  refine tr_loopW (fun m σ => ∃ i, i + m = (r.coef.drop d).length ∧ σ = ⟨[(7, .int .i64 (leastT (r.coef.drop d) (chosenW (r.coef.take d) set) i)), (19, .sl 1 (encI (r.coef.drop d))), (20, .int .i64 (r.coef.drop d).length), (21, .int .i64 (i : Nat))], [(0, .cells (encRw r))], 1⟩) ((r.coef.drop d).length) ?_ ?_
  · exact ⟨_, Wk.refl _, 0, by omega, rfl⟩
  · rintro m σ ⟨i, hi, rfl⟩ KL1 hKL1
    refine tr_seq fun K5 hK5 => ?_
    refine tr_region [7, 19, 20, 21, 22] rfl rfl fun K hK => ?_
    refine evR_p ?_
    refine evR_e hK ?_; clear hK K
    refine hK5 _ ?_
    refine tr_seq fun K6 hK6 => ?_
    refine tr_condB (fun ht1 => ?_) (fun ht1 => ?_)
    · skip
      have hil : i < (r.coef.drop d).length := by omega
      have hl2 : (r.coef.drop d).length ≤ r.coef.length := by simp
      replace hq := And.intro hq (hil)
      refine tr_skip ?_
      (try simp only [thenE, inBlkE])
      refine hK6 _ ?_
      refine tr_seq fun K7 hK7 => ?_
      refine tr_block ?_
      refine tr_seq fun K8 hK8 => ?_
      refine tr_region [7, 9, 19, 20, 21] rfl rfl fun K hK => ?_
      iterate 3 refine evR_p ?_
      refine evR_e hK ?_; clear hK K
      refine hK8 _ ?_
      refine tr_region [7, 19, 20, 21] rfl rfl fun K hK => ?_
      iterate 5 refine evR_p ?_
      refine evR_e hK ?_; clear hK K
      refine hK7 _ ?_
      refine tr_region [7, 19, 20, 21] rfl rfl fun K hK => ?_
      iterate 2 refine evR_p ?_
      refine evR_e hK ?_; clear hK K
      refine hKL1 _ ?_
      exact ⟨m - 1, _, by omega, Wk.refl _, i + 1, by omega, by rw [w64 (x := (i : Int) + 1) (by omega)]; rfl⟩
    · skip
      have hil : i = (r.coef.drop d).length := by omega
      subst hil
      refine tr_exit ?_
      simp only [thenE, inBlkE, Nat.reduceEqDiff, ↓reduceIte]
      refine hK3 _ ?_
      refine tr_seq fun K9 hK9 => ?_
      refine tr_region [6] rfl rfl fun K hK => ?_
      iterate 2 refine evR_p ?_
      refine evR_e hK ?_; clear hK K
      refine hK9 _ ?_
      refine tr_ret ?_
      (try simp only [thenE, inBlkE])
      simp (maxSteps := 4000000) (disch := first | assumption | omega | (simp only [go_sem, *]; done) | (simp only [go_sem, *]; omega)) only [postA, postO, resV1, fzAll, go_sem, hq, Int.reduceToNat, Nat.reduceBEq, Nat.reduceEqDiff, Nat.reduceAdd, Nat.reduceMul, Nat.reduceLeDiff, Nat.reduceLT, Nat.reduceSub, ↓reduceIte, reduceCtorEq]
      all_goals (rfl)
end

theorem c62 (r : Rw) (hm : r.coef.length ≤ maxLen) (d : Nat) (set : Int) (hd : d ≤ r.coef.length) : CallsA Tryd.prog 71 [.agg (encRw r), .ep [.int .i64 d], .ep [.int .i64 set]] (.bool (overB d set r)) := by
  have hq : True := trivial
  refine callsA_of_tr Tryd.func71 rfl (Nat.le_of_ble_eq_true rfl) ?_
  simp only [Tryd.results71, envOf, Nat.reduceAdd]
  refine tr_seq fun K1 hK1 => ?_
  refine tr_region [1, 2, 3] rfl rfl fun K hK => ?_
  iterate 2 refine evR_p ?_
  refine evR_e hK ?_; clear hK K
  refine hK1 _ ?_
  refine tr_seq fun K2 hK2 => ?_
  refine tr_draw [] [4] mixed rfl (by kernel_rfl) rfl fun K hK => ?_
  iterate 3 refine evD_p ?_
  refine evD_c (hc := (c63 r hm d set hd)) (k := ?_)
  iterate 4 refine evD_p ?_
  refine evD_e hK ?_; clear hK K
  refine hK2 _ ?_
  refine tr_ret ?_
  (try simp only [thenE, inBlkE])
  simp (maxSteps := 4000000) (disch := first | assumption | omega | (simp only [go_sem, *]; done) | (simp only [go_sem, *]; omega)) only [postA, postO, resV1, fzAll, go_sem, hq, Int.reduceToNat, Nat.reduceBEq, Nat.reduceEqDiff, Nat.reduceAdd, Nat.reduceMul, Nat.reduceLeDiff, Nat.reduceLT, Nat.reduceSub, ↓reduceIte, reduceCtorEq]
  all_goals (rfl)

end Go.Proofs.YtgmgifmfhpoglaaDoor


namespace Go.Proofs.YtgmgifmfhpoglaaDoor
open Go.RowKit
set_option linter.unusedVariables false
set_option linter.unusedSimpArgs false
set_option maxRecDepth 100000
attribute [local go_sem] Nat.zero_add Nat.add_zero Nat.mul_one eq_self ne_eq not_true_eq_false not_false_eq_true decide_true decide_false decide_not Bool.false_eq_true List.filter_cons List.filter_nil true_and and_true beq_false beq_true Bool.not_true Bool.not_false Bool.and_true Bool.true_and Option.getD_some Option.getD_none imp_self implies_true Int.toNat_natCast List.cons_append List.nil_append List.map_cons List.map_nil List.length_cons List.length_nil List.getD_cons_zero List.getD_cons_succ List.drop_zero List.drop_succ_cons List.take_succ_cons List.take_zero
attribute [local go_sem] isE isO stpO notIn St.bare evO evDO isEff stp St.get St.slot St.put List.lookup un unL ofVal gof nth pickV pkB_false pkB_true binV unV loadV idxV fldV partV buildV fillV lenV sliV appV appR rowsV winV V.parts V.okp V.sc Mem.look_cons Mem.look_nil V.cl V.clL AObj.clo fzAll exps St.fz Mem.fz V.fz V.fzL AObj.fz Option.isSome_some Option.isSome_none Bool.or_true Bool.true_or Bool.or_false Bool.false_or false_and and_false false_or or_false arT_26 arT_27 arT_23 arT_22 arT_31 arT_45 arT_38 arT_55     boolT_23 boolT_3 boolT_32 boolT_4  flatT_23 flatT_3 flatT_32 flatT_4  intT_3 intT_81 lay_27 lay_23 lay_54 lay_22 lay_25 lay_3 lay_37 lay_45 lay_47 lay_4     lay_88 lay_61  okF_11 okF_18  okF_28     okF_16 okF_47 okF_60     okF_26 okF_61    okF_29       okF_31 okF_48 okF_49  okF_50 okF_51 okF_79    okF_63 okF_64 okF_65 okF_52  okF_66 okF_77 okF_78 okF_45  okF_46 okF_53 okF_54 okF_67 okF_68  okF_69 okF_70 okF_71 okF_72   okF_82 okF_83 okF_84 okF_85  okF_73 okF_74 okF_87 okF_88 okF_86 okF_89   plT_54 plT_25 plT_47 plT_96 plT_93 slT_26 slT_27 slT_23 slT_22 slT_31 slT_45 slT_38 slT_55    slT_94     stT_54_4 stT_54_5 stT_25_0 stT_25_1 stT_25_2 stT_47_0  stT_47_2 stT_47_3  stT_96_1 stT_96_2    zeroT_23 zeroT_54 zeroT_25 zeroT_3 zeroT_37 zeroT_45 zeroT_47 zeroT_55  zeroT_96 zeroT_93
attribute [local go_sem] List.getElem?_cons_zero List.getElem?_cons_succ List.zip_cons_cons List.zip_nil_left List.zip_nil_right Bool.false_and Bool.and_false List.length_append List.length_set List.length_replicate List.all_cons List.all_nil encI_length encI_getD encR_length encR_getD encRw encPg spl shp AObj.shp rowM isSt isRpS isRd csh AObj.csh forall_const imp_self
attribute [local simp] encI_length encR_length
section
attribute [local go_sem] encS_one encS_leaf encS_length
theorem c60s (rows : List Rw) (hr : rows.length ≤ maxLen) (hm : ∀ r ∈ rows, r.coef.length ≤ maxLen) (n d : Nat) (set : Int) (out : List Stp) (hc : ∀ r ∈ rows, r.coef.length = d + n) (hd : d + n ≤ 12) (hinf : infN rows n d set) (ho : out.length + 2 ^ (n + 1) ≤ 100000)
    (ih : ∀ (m : Nat), m + 1 = n → ∀ (set : Int) (out : List Stp), infN rows m (d + 1) set → out.length + 2 ^ (m + 1) ≤ 100000 → CallsM Tryd.prog 69 [.int .i64 ((d + 1 : Nat) : Int), .int .i64 set, .ptr 1 0, .ptr 0 0, .ptr 2 0] [(3, .row 96 4 (encS out)), (2, .cells [.fn 69 [.ptr 1 0, .ptr 0 0, .ptr 2 0]]), (1, .cells [.own 3]), (0, .cells [.sl 6 (encR rows)])] 4 (.int .i64 ((out).length : Nat)) [(4, .row 96 4 (encS (growN rows m (d + 1) set out))), (2, .cells [.fn 69 [.ptr 1 0, .ptr 0 0, .ptr 2 0]]), (1, .cells [.own 4]), (0, .cells [.sl 6 (encR rows)])] 5) : CallsM Tryd.prog 69 [.int .i64 (d : Nat), .int .i64 set, .ptr 1 0, .ptr 0 0, .ptr 2 0] ([(3, .row 96 4 (encS out)), (2, .cells [.fn 69 [.ptr 1 0, .ptr 0 0, .ptr 2 0]]), (1, .cells [.own 3]), (0, .cells [.sl 6 (encR rows)])]) (4) (.int .i64 (out.length : Nat)) ([(4, .row 96 4 (encS (growN rows n d set out))), (2, .cells [.fn 69 [.ptr 1 0, .ptr 0 0, .ptr 2 0]]), (1, .cells [.own 4]), (0, .cells [.sl 6 (encR rows)])]) (5) := by
  have hw1 : IntKind.i64.wrap ((d : Int) + 1) = ((d + 1 : Nat) : Int) := w64 (by omega)
  have hp2 : 2 ≤ 2 ^ (n + 1) := (by have := Nat.one_le_two_pow (n := n); rw [Nat.pow_succ]; omega)
  have hq := hw1
  refine callsM_of_tr Tryd.func69 rfl (Nat.le_of_ble_eq_true rfl) (Nat.le_of_ble_eq_true rfl) (Nat.le_of_ble_eq_true rfl) ?_
  simp only [Tryd.results69, envOf, gh, gv, List.cons_append, List.nil_append, Nat.reduceAdd]
  refine tr_seq fun K1 hK1 => ?_
  refine tr_region [2, 3, 4, 5, 6, 1000000, 1000001, 1000002, 1000003] rfl rfl fun K hK => ?_
  iterate 3 refine evR_p ?_
  refine evR_e hK ?_; clear hK K
  refine hK1 _ ?_
  refine tr_seq fun K2 hK2 => ?_
  refine tr_region [2, 3, 4, 5, 6, 8, 1000000, 1000001, 1000002, 1000003] rfl rfl fun K hK => ?_
  iterate 3 refine evR_p ?_
  refine evR_e hK ?_; clear hK K
  refine hK2 _ ?_
  refine tr_seq fun K3 hK3 => ?_
  refine tr_region [2, 4, 5, 6, 8, 9, 1000000, 1000001, 1000002, 1000003] rfl rfl fun K hK => ?_
  iterate 2 refine evR_p ?_
  refine evR_c (hc := (c61 rows 71 [.ep [.int .i64 d], .ep [.int .i64 set]] (overB d set) okF_71 rfl (fun r h => c62 r (hm r h) d set (by rw [hc r h]; omega)) hr)) (k := ?_)
  refine evR_p ?_
  refine evR_e hK ?_; clear hK K
  refine hK3 _ ?_
  refine tr_seq fun K4 hK4 => ?_
  refine tr_seq fun K5 hK5 => ?_
  refine tr_region [2, 4, 5, 6, 8, 9, 18, 1000000, 1000001, 1000002, 1000003] rfl rfl fun K hK => ?_
  iterate 2 refine evR_p ?_
  refine evR_e hK ?_; clear hK K
  refine hK5 _ ?_
  refine tr_condB (fun ht1 => ?_) (fun ht1 => ?_)
  · skip
    (first | (have hneg : ¬ (0 ≤ idxOf (overB d set) rows) := ht1; obtain ⟨m, hnm, hi1, hi2⟩ := infN_step hinf hneg; have hg1 := growN_length rows m (d + 1) set (out ++ [⟨d, 0, 0, none⟩]); have hg2 := growN_length rows m (d + 1) (setBit set d) (growN rows m (d + 1) set (out ++ [⟨d, 0, 0, none⟩])); simp only [List.length_append, List.length_cons, List.length_nil] at hg1) | skip)
    refine tr_seq fun K6 hK6 => ?_
    refine tr_region [8, 1000000, 1000001, 1000002, 1000003] rfl rfl fun K hK => ?_
    iterate 3 refine evR_p ?_
    refine evR_bs ?_
    refine evR_p ?_
    refine evR_bs ?_
    iterate 2 refine evR_p ?_
    refine evR_e hK ?_; clear hK K
    refine hK6 _ ?_
    refine tr_seq fun K7 hK7 => ?_
    refine tr_region [7, 1000000, 1000001, 1000002, 1000003] rfl rfl fun K hK => ?_
    iterate 2 refine evR_p ?_
    refine evR_e hK ?_; clear hK K
    refine hK7 _ ?_
    refine tr_ret ?_
    (try simp only [thenE, inBlkE])
    all_goals first | refine ⟨_, (Wk.trans (Wk.ren 6 4 (Nat.le_of_ble_eq_true rfl) (Nat.le_of_ble_eq_true rfl) rfl) (Wk.cut 5 rfl)), ?_⟩ | refine ⟨_, (Wk.trans (Wk.ren 8 4 (Nat.le_of_ble_eq_true rfl) (Nat.le_of_ble_eq_true rfl) rfl) (Wk.cut 5 rfl)), ?_⟩
    simp (maxSteps := 4000000) (disch := first | assumption | omega | (simp only [go_sem, *]; done) | (simp only [go_sem, *]; omega)) only [postM, ghOK, gv, St.ren, St.cut, V.ren, V.renL, AObj.ren, Nat.blt_eq, resV1, go_sem, hq, Int.reduceToNat, Nat.reduceBEq, Nat.reduceEqDiff, Nat.reduceAdd, Nat.reduceMul, Nat.reduceLeDiff, Nat.reduceLT, Nat.reduceSub, ↓reduceIte, reduceCtorEq]
    all_goals ((first | (rw [growN_leaf ht1]; done) | (subst hnm; rw [grow_fin (by omega) growN_at]; simp only [growN, if_neg hneg]; rfl)))
  · skip
    (first | (have hneg : ¬ (0 ≤ idxOf (overB d set) rows) := ht1; obtain ⟨m, hnm, hi1, hi2⟩ := infN_step hinf hneg; have hg1 := growN_length rows m (d + 1) set (out ++ [⟨d, 0, 0, none⟩]); have hg2 := growN_length rows m (d + 1) (setBit set d) (growN rows m (d + 1) set (out ++ [⟨d, 0, 0, none⟩])); simp only [List.length_append, List.length_cons, List.length_nil] at hg1) | skip)
    refine tr_skip ?_
    (try simp only [thenE, inBlkE])
    refine hK4 _ ?_
    refine tr_seq fun K8 hK8 => ?_
    refine tr_region [2, 4, 5, 6, 8, 1000000, 1000001, 1000002, 1000003] rfl rfl fun K hK => ?_
    iterate 3 refine evR_p ?_
    refine evR_bs ?_
    iterate 2 refine evR_p ?_
    refine evR_e hK ?_; clear hK K
    refine hK8 _ ?_
    refine tr_seq fun K9 hK9 => ?_
    refine tr_region [2, 4, 5, 6, 8, 10, 1000000, 1000001, 1000002, 1000003] rfl rfl fun K hK => ?_
    iterate 4 refine evR_p ?_
    refine evR_stepX fun Kq hKq => Or.inr ?_
    simp (maxSteps := 4000000) (disch := first | assumption | omega | (simp only [go_sem, *]; done) | (simp only [go_sem, *]; omega)) only [stpM, go_sem, hq, Int.reduceToNat, Nat.reduceBEq, Nat.reduceEqDiff, Nat.reduceAdd, Nat.reduceMul, Nat.reduceLeDiff, Nat.reduceLT, Nat.reduceSub, ↓reduceIte, reduceCtorEq]
    refine ⟨[0, 1, 2, 6], ?_⟩
    simp (maxSteps := 4000000) (disch := first | assumption | omega | (simp only [go_sem, *]; done) | (simp only [go_sem, *]; omega)) only [V.mapL, V.map, gJ, footJ, inJ, AObj.map, ndJ, ltJ, V.domL, V.dom, AObj.dom, kC, kR, AObj.isC, hJ, backJ, List.any_cons, List.any_nil, Nat.ble_eq, Nat.blt_eq, Nat.reduceLT, Nat.reduceLeDiff, Bool.or_true, Bool.true_or, Bool.or_false, Bool.false_or, Bool.and_self, go_sem, hq, Int.reduceToNat, Nat.reduceBEq, Nat.reduceEqDiff, Nat.reduceAdd, Nat.reduceMul, Nat.reduceLeDiff, Nat.reduceLT, Nat.reduceSub, ↓reduceIte, reduceCtorEq]
    refine ⟨_, _, _, (ih m hnm set _ hi1 (by subst hnm; rw [Nat.pow_succ] at ho; simp only [List.length_append, List.length_cons, List.length_nil]; omega)), ?_⟩
    simp (maxSteps := 4000000) (disch := first | assumption | omega | (simp only [go_sem, *]; done) | (simp only [go_sem, *]; omega)) only [V.mapL, V.map, gJ, footJ, inJ, AObj.map, ndJ, ltJ, V.domL, V.dom, AObj.dom, kC, kR, AObj.isC, hJ, backJ, List.any_cons, List.any_nil, Nat.ble_eq, Nat.blt_eq, Nat.reduceLT, Nat.reduceLeDiff, Bool.or_true, Bool.true_or, Bool.or_false, Bool.false_or, Bool.and_self, go_sem, hq, Int.reduceToNat, Nat.reduceBEq, Nat.reduceEqDiff, Nat.reduceAdd, Nat.reduceMul, Nat.reduceLeDiff, Nat.reduceLT, Nat.reduceSub, ↓reduceIte, reduceCtorEq]
    (repeat (refine And.intro (by first | assumption | omega | decide | (simp; done) | (simp; omega) | (have hq := hvv hgt; omega) | (simp_all; done)) ?_))
    refine hKq _ ?_; clear hKq Kq
    refine evR_p ?_
    refine evR_e hK ?_; clear hK K
    refine hK9 _ ?_
    refine tr_seq fun K10 hK10 => ?_
    refine tr_draw [44] [2, 8, 10, 11, 1000000, 1000001, 1000002, 1000003] mixed rfl (by kernel_rfl) rfl fun K hK => ?_
    iterate 7 refine evD_p ?_
    refine evD_step fun Kq hKq => ?_
    simp (maxSteps := 4000000) (disch := first | assumption | omega | (simp only [go_sem, *]; done) | (simp only [go_sem, *]; omega)) only [go_sem, hq, Int.reduceToNat, Nat.reduceBEq, Nat.reduceEqDiff, Nat.reduceAdd, Nat.reduceMul, Nat.reduceLeDiff, Nat.reduceLT, Nat.reduceSub, ↓reduceIte, reduceCtorEq]
    refine Or.inr ?_
    simp (maxSteps := 4000000) (disch := first | assumption | omega | (simp only [go_sem, *]; done) | (simp only [go_sem, *]; omega)) only [stpM, go_sem, hq, Int.reduceToNat, Nat.reduceBEq, Nat.reduceEqDiff, Nat.reduceAdd, Nat.reduceMul, Nat.reduceLeDiff, Nat.reduceLT, Nat.reduceSub, ↓reduceIte, reduceCtorEq]
    refine ⟨[0, 1, 2, 7], ?_⟩
    simp (maxSteps := 4000000) (disch := first | assumption | omega | (simp only [go_sem, *]; done) | (simp only [go_sem, *]; omega)) only [V.mapL, V.map, gJ, footJ, inJ, AObj.map, ndJ, ltJ, V.domL, V.dom, AObj.dom, kC, kR, AObj.isC, hJ, backJ, List.any_cons, List.any_nil, Nat.ble_eq, Nat.blt_eq, Nat.reduceLT, Nat.reduceLeDiff, Bool.or_true, Bool.true_or, Bool.or_false, Bool.false_or, Bool.and_self, go_sem, hq, Int.reduceToNat, Nat.reduceBEq, Nat.reduceEqDiff, Nat.reduceAdd, Nat.reduceMul, Nat.reduceLeDiff, Nat.reduceLT, Nat.reduceSub, ↓reduceIte, reduceCtorEq]
    refine ⟨_, _, _, (ih m hnm (setBit set d) _ hi2 (by subst hnm; rw [Nat.pow_succ] at ho; omega)), ?_⟩
    simp (maxSteps := 4000000) (disch := first | assumption | omega | (simp only [go_sem, *]; done) | (simp only [go_sem, *]; omega)) only [V.mapL, V.map, gJ, footJ, inJ, AObj.map, ndJ, ltJ, V.domL, V.dom, AObj.dom, kC, kR, AObj.isC, hJ, backJ, List.any_cons, List.any_nil, Nat.ble_eq, Nat.blt_eq, Nat.reduceLT, Nat.reduceLeDiff, Bool.or_true, Bool.true_or, Bool.or_false, Bool.false_or, Bool.and_self, go_sem, hq, Int.reduceToNat, Nat.reduceBEq, Nat.reduceEqDiff, Nat.reduceAdd, Nat.reduceMul, Nat.reduceLeDiff, Nat.reduceLT, Nat.reduceSub, ↓reduceIte, reduceCtorEq]
    (repeat (refine And.intro (by first | assumption | omega | decide | (simp; done) | (simp; omega) | (have hq := hvv hgt; omega) | (simp_all; done)) ?_))
    refine hKq _ ?_; clear hKq Kq
    refine evD_p ?_
    refine evD_e hK ?_; clear hK K
    refine hK10 _ ?_
    refine tr_seq fun K11 hK11 => ?_
    refine tr_draw [999999] [8, 1000000, 1000001, 1000002, 1000003] mixed rfl (by kernel_rfl) rfl fun K hK => ?_
    iterate 12 refine evD_p ?_
    refine evD_e hK ?_; clear hK K
    refine hK11 _ ?_
    refine tr_seq fun K12 hK12 => ?_
    refine tr_region [7, 1000000, 1000001, 1000002, 1000003] rfl rfl fun K hK => ?_
    iterate 2 refine evR_p ?_
    refine evR_e hK ?_; clear hK K
    refine hK12 _ ?_
    refine tr_ret ?_
    (try simp only [thenE, inBlkE])
    all_goals first | refine ⟨_, (Wk.trans (Wk.ren 6 4 (Nat.le_of_ble_eq_true rfl) (Nat.le_of_ble_eq_true rfl) rfl) (Wk.cut 5 rfl)), ?_⟩ | refine ⟨_, (Wk.trans (Wk.ren 8 4 (Nat.le_of_ble_eq_true rfl) (Nat.le_of_ble_eq_true rfl) rfl) (Wk.cut 5 rfl)), ?_⟩
    simp (maxSteps := 4000000) (disch := first | assumption | omega | (simp only [go_sem, *]; done) | (simp only [go_sem, *]; omega)) only [postM, ghOK, gv, St.ren, St.cut, V.ren, V.renL, AObj.ren, Nat.blt_eq, resV1, go_sem, hq, Int.reduceToNat, Nat.reduceBEq, Nat.reduceEqDiff, Nat.reduceAdd, Nat.reduceMul, Nat.reduceLeDiff, Nat.reduceLT, Nat.reduceSub, ↓reduceIte, reduceCtorEq]
    all_goals ((first | (rw [growN_leaf ht1]; done) | (subst hnm; rw [grow_fin (by omega) growN_at]; simp only [growN, if_neg hneg]; rfl)))
end

end Go.Proofs.YtgmgifmfhpoglaaDoor


namespace Go.Proofs.YtgmgifmfhpoglaaDoor
open Go.RowKit
set_option linter.unusedVariables false
set_option linter.unusedSimpArgs false
set_option maxRecDepth 100000
attribute [local go_sem] Nat.zero_add Nat.add_zero Nat.mul_one eq_self ne_eq not_true_eq_false not_false_eq_true decide_true decide_false decide_not Bool.false_eq_true List.filter_cons List.filter_nil true_and and_true beq_false beq_true Bool.not_true Bool.not_false Bool.and_true Bool.true_and Option.getD_some Option.getD_none imp_self implies_true Int.toNat_natCast List.cons_append List.nil_append List.map_cons List.map_nil List.length_cons List.length_nil List.getD_cons_zero List.getD_cons_succ List.drop_zero List.drop_succ_cons List.take_succ_cons List.take_zero
attribute [local go_sem] isE isO stpO notIn St.bare evO evDO isEff stp St.get St.slot St.put List.lookup un unL ofVal gof nth pickV pkB_false pkB_true binV unV loadV idxV fldV partV buildV fillV lenV sliV appV appR rowsV winV V.parts V.okp V.sc Mem.look_cons Mem.look_nil V.cl V.clL AObj.clo fzAll exps St.fz Mem.fz V.fz V.fzL AObj.fz Option.isSome_some Option.isSome_none Bool.or_true Bool.true_or Bool.or_false Bool.false_or false_and and_false false_or or_false arT_26 arT_27 arT_23 arT_22 arT_31 arT_45 arT_38 arT_55     boolT_23 boolT_3 boolT_32 boolT_4  flatT_23 flatT_3 flatT_32 flatT_4  intT_3 intT_81 lay_27 lay_23 lay_54 lay_22 lay_25 lay_3 lay_37 lay_45 lay_47 lay_4     lay_88 lay_61  okF_11 okF_18  okF_28     okF_16 okF_47 okF_60     okF_26 okF_61    okF_29       okF_31 okF_48 okF_49  okF_50 okF_51 okF_79    okF_63 okF_64 okF_65 okF_52  okF_66 okF_77 okF_78 okF_45  okF_46 okF_53 okF_54 okF_67 okF_68  okF_69 okF_70 okF_71 okF_72   okF_82 okF_83 okF_84 okF_85  okF_73 okF_74 okF_87 okF_88 okF_86 okF_89   plT_54 plT_25 plT_47 plT_96 plT_93 slT_26 slT_27 slT_23 slT_22 slT_31 slT_45 slT_38 slT_55    slT_94     stT_54_4 stT_54_5 stT_25_0 stT_25_1 stT_25_2 stT_47_0  stT_47_2 stT_47_3  stT_96_1 stT_96_2    zeroT_23 zeroT_54 zeroT_25 zeroT_3 zeroT_37 zeroT_45 zeroT_47 zeroT_55  zeroT_96 zeroT_93
attribute [local go_sem] List.getElem?_cons_zero List.getElem?_cons_succ List.zip_cons_cons List.zip_nil_left List.zip_nil_right Bool.false_and Bool.and_false List.length_append List.length_set List.length_replicate List.all_cons List.all_nil encI_length encI_getD encR_length encR_getD encRw encPg spl shp AObj.shp rowM isSt isRpS isRd csh AObj.csh forall_const imp_self
attribute [local simp] encI_length encR_length
theorem c60 (rows : List Rw) (hr : rows.length ≤ maxLen) : ∀ (n d : Nat) (set : Int) (out : List Stp), (∀ r ∈ rows, r.coef.length = d + n) → d + n ≤ 12 → infN rows n d set → out.length + 2 ^ (n + 1) ≤ 100000 → CallsM Tryd.prog 69 [.int .i64 (d : Nat), .int .i64 set, .ptr 1 0, .ptr 0 0, .ptr 2 0] [(3, .row 96 4 (encS out)), (2, .cells [.fn 69 [.ptr 1 0, .ptr 0 0, .ptr 2 0]]), (1, .cells [.own 3]), (0, .cells [.sl 6 (encR rows)])] 4 (.int .i64 ((out).length : Nat)) [(4, .row 96 4 (encS (growN rows n d set out))), (2, .cells [.fn 69 [.ptr 1 0, .ptr 0 0, .ptr 2 0]]), (1, .cells [.own 4]), (0, .cells [.sl 6 (encR rows)])] 5
  | 0, d, set, out, hc, hd, hi, ho => c60s rows hr (fun r h => by have := hc r h; unfold maxLen; omega) 0 d set out hc hd hi ho fun m hm => by omega
  | n + 1, d, set, out, hc, hd, hi, ho => c60s rows hr (fun r h => by have := hc r h; unfold maxLen; omega) (n + 1) d set out hc hd hi ho fun m hm set out h1 h2 => by
    have : m = n := by omega
    subst this
    exact c60 rows hr m (d + 1) set out (fun r h => by have := hc r h; omega) (by omega) h1 h2
theorem c41 (rows : List Rw) (hr : rows.length ≤ maxLen) (n : Nat) (hn : n ≤ 12) (hc : ∀ r ∈ rows, r.coef.length = n) (hinf : infN rows n 0 0) : CallsA Tryd.prog 51 [.sl 6 (encR rows)] (.sl 4 (encS (growN rows n 0 0 []))) := by
  have hp : 2 ^ (n + 1) ≤ 2 ^ 13 := Nat.pow_le_pow_right (by omega) (by omega)
  have hq : True := trivial
  refine callsA_of_tr Tryd.func51 rfl (Nat.le_of_ble_eq_true rfl) ?_
  simp only [Tryd.results51, envOf, Nat.reduceAdd]
  refine tr_seq fun K1 hK1 => ?_
  refine tr_region [1] rfl rfl fun K hK => ?_
  iterate 2 refine evR_p ?_
  refine evR_e hK ?_; clear hK K
  refine hK1 _ ?_
  refine tr_seq fun K2 hK2 => ?_
  refine tr_region [1, 3] rfl rfl fun K hK => ?_
  refine evR_p ?_
  refine evR_e hK ?_; clear hK K
  refine hK2 _ ?_
  refine tr_seq fun K3 hK3 => ?_
  refine tr_region [1, 3, 4] rfl rfl fun K hK => ?_
  refine evR_p ?_
  refine evR_e hK ?_; clear hK K
  refine hK3 _ ?_
  refine tr_seq fun K4 hK4 => ?_
  refine tr_region [3, 4] rfl rfl fun K hK => ?_
  iterate 2 refine evR_p ?_
  refine evR_e hK ?_; clear hK K
  refine hK4 _ ?_
  refine tr_seq fun K5 hK5 => ?_
  refine tr_wk (Wk.nilown 96 4 1 0 rfl (by decide) rfl) ?_
  try simp only [List.map_cons, List.map_nil, Nat.reduceEqDiff, ↓reduceIte, List.set_cons_zero, List.set_cons_succ, Nat.reduceAdd]
  refine tr_region [3] rfl rfl fun K hK => ?_
  refine evR_p ?_
  refine evR_stepX fun Kq hKq => Or.inr ?_
  simp (maxSteps := 4000000) (disch := first | assumption | omega | (simp only [go_sem, *]; done) | (simp only [go_sem, *]; omega)) only [stpM, go_sem, hq, Int.reduceToNat, Nat.reduceBEq, Nat.reduceEqDiff, Nat.reduceAdd, Nat.reduceMul, Nat.reduceLeDiff, Nat.reduceLT, Nat.reduceSub, ↓reduceIte, reduceCtorEq]
  refine ⟨[0, 1, 2, 3], ?_⟩
  simp (maxSteps := 4000000) (disch := first | assumption | omega | (simp only [go_sem, *]; done) | (simp only [go_sem, *]; omega)) only [V.mapL, V.map, gJ, footJ, inJ, AObj.map, ndJ, ltJ, V.domL, V.dom, AObj.dom, kC, kR, AObj.isC, hJ, backJ, List.any_cons, List.any_nil, Nat.ble_eq, Nat.blt_eq, Nat.reduceLT, Nat.reduceLeDiff, Bool.or_true, Bool.true_or, Bool.or_false, Bool.false_or, Bool.and_self, go_sem, hq, Int.reduceToNat, Nat.reduceBEq, Nat.reduceEqDiff, Nat.reduceAdd, Nat.reduceMul, Nat.reduceLeDiff, Nat.reduceLT, Nat.reduceSub, ↓reduceIte, reduceCtorEq]
  refine ⟨_, _, _, (c60 rows hr n 0 0 [] (fun r h => by rw [hc r h]; omega) (by omega) hinf (by simp only [List.length_nil]; omega)), ?_⟩
  simp (maxSteps := 4000000) (disch := first | assumption | omega | (simp only [go_sem, *]; done) | (simp only [go_sem, *]; omega)) only [V.mapL, V.map, gJ, footJ, inJ, AObj.map, ndJ, ltJ, V.domL, V.dom, AObj.dom, kC, kR, AObj.isC, hJ, backJ, List.any_cons, List.any_nil, Nat.ble_eq, Nat.blt_eq, Nat.reduceLT, Nat.reduceLeDiff, Bool.or_true, Bool.true_or, Bool.or_false, Bool.false_or, Bool.and_self, go_sem, hq, Int.reduceToNat, Nat.reduceBEq, Nat.reduceEqDiff, Nat.reduceAdd, Nat.reduceMul, Nat.reduceLeDiff, Nat.reduceLT, Nat.reduceSub, ↓reduceIte, reduceCtorEq]
  (repeat (refine And.intro (by first | assumption | omega | decide | (simp; done) | (simp; omega) | (have hq := hvv hgt; omega) | (simp_all; done)) ?_))
  refine hKq _ ?_; clear hKq Kq
  refine evR_e hK ?_; clear hK K
  refine hK5 _ ?_
  refine tr_seq fun K6 hK6 => ?_
  refine tr_region [2] rfl rfl fun K hK => ?_
  iterate 2 refine evR_p ?_
  refine evR_e hK ?_; clear hK K
  refine hK6 _ ?_
  refine tr_ret ?_
  (try simp only [thenE, inBlkE])
  simp (maxSteps := 4000000) (disch := first | assumption | omega | (simp only [go_sem, *]; done) | (simp only [go_sem, *]; omega)) only [postA, postO, resV1, fzAll, go_sem, hq, Int.reduceToNat, Nat.reduceBEq, Nat.reduceEqDiff, Nat.reduceAdd, Nat.reduceMul, Nat.reduceLeDiff, Nat.reduceLT, Nat.reduceSub, ↓reduceIte, reduceCtorEq]
  all_goals (skip)

end Go.Proofs.YtgmgifmfhpoglaaDoor


namespace Go.Proofs.YtgmgifmfhpoglaaDoor
open Go.RowKit
set_option linter.unusedVariables false
set_option linter.unusedSimpArgs false
set_option maxRecDepth 100000
attribute [local go_sem] Nat.zero_add Nat.add_zero Nat.mul_one eq_self ne_eq not_true_eq_false not_false_eq_true decide_true decide_false decide_not Bool.false_eq_true List.filter_cons List.filter_nil true_and and_true beq_false beq_true Bool.not_true Bool.not_false Bool.and_true Bool.true_and Option.getD_some Option.getD_none imp_self implies_true Int.toNat_natCast List.cons_append List.nil_append List.map_cons List.map_nil List.length_cons List.length_nil List.getD_cons_zero List.getD_cons_succ List.drop_zero List.drop_succ_cons List.take_succ_cons List.take_zero
attribute [local go_sem] isE isO stpO notIn St.bare evO evDO isEff stp St.get St.slot St.put List.lookup un unL ofVal gof nth pickV pkB_false pkB_true binV unV loadV idxV fldV partV buildV fillV lenV sliV appV appR rowsV winV V.parts V.okp V.sc Mem.look_cons Mem.look_nil V.cl V.clL AObj.clo fzAll exps St.fz Mem.fz V.fz V.fzL AObj.fz Option.isSome_some Option.isSome_none Bool.or_true Bool.true_or Bool.or_false Bool.false_or false_and and_false false_or or_false arT_26 arT_27 arT_23 arT_22 arT_31 arT_45 arT_38 arT_55     boolT_23 boolT_3 boolT_32 boolT_4  flatT_23 flatT_3 flatT_32 flatT_4  intT_3 intT_81 lay_27 lay_23 lay_54 lay_22 lay_25 lay_3 lay_37 lay_45 lay_47 lay_4     lay_88 lay_61  okF_11 okF_18  okF_28     okF_16 okF_47 okF_60     okF_26 okF_61    okF_29       okF_31 okF_48 okF_49  okF_50 okF_51 okF_79    okF_63 okF_64 okF_65 okF_52  okF_66 okF_77 okF_78 okF_45  okF_46 okF_53 okF_54 okF_67 okF_68  okF_69 okF_70 okF_71 okF_72   okF_82 okF_83 okF_84 okF_85  okF_73 okF_74 okF_87 okF_88 okF_86 okF_89   plT_54 plT_25 plT_47 plT_96 plT_93 slT_26 slT_27 slT_23 slT_22 slT_31 slT_45 slT_38 slT_55    slT_94     stT_54_4 stT_54_5 stT_25_0 stT_25_1 stT_25_2 stT_47_0  stT_47_2 stT_47_3  stT_96_1 stT_96_2    zeroT_23 zeroT_54 zeroT_25 zeroT_3 zeroT_37 zeroT_45 zeroT_47 zeroT_55  zeroT_96 zeroT_93
attribute [local go_sem] List.getElem?_cons_zero List.getElem?_cons_succ List.zip_cons_cons List.zip_nil_left List.zip_nil_right Bool.false_and Bool.and_false List.length_append List.length_set List.length_replicate List.all_cons List.all_nil encI_length encI_getD encR_length encR_getD encRw encPg spl shp AObj.shp rowM isSt isRpS isRd csh AObj.csh forall_const imp_self
attribute [local simp] encI_length encR_length
theorem c38 (p : Pg) : CallsA Tryd.prog 48 [.agg (encPg p)] (.fn 67 [.ep (encPg p)]) := by
  have hq : True := trivial
  refine callsA_of_tr Tryd.func48 rfl (Nat.le_of_ble_eq_true rfl) ?_
  simp only [Tryd.results48, envOf, Nat.reduceAdd]
  refine tr_seq fun K1 hK1 => ?_
  refine tr_region [1] rfl rfl fun K hK => ?_
  iterate 2 refine evR_p ?_
  refine evR_e hK ?_; clear hK K
  refine hK1 _ ?_
  refine tr_seq fun K2 hK2 => ?_
  refine tr_fz [.ptr 0 0] (by simp (maxSteps := 4000000) (disch := first | assumption | omega | (simp only [go_sem, *]; done) | (simp only [go_sem, *]; omega)) only [go_sem, hq, Int.reduceToNat, Nat.reduceBEq, Nat.reduceEqDiff, Nat.reduceAdd, Nat.reduceMul, Nat.reduceLeDiff, Nat.reduceLT, Nat.reduceSub, ↓reduceIte, reduceCtorEq]; (try rfl)) ?_
  refine tr_region [2] rfl rfl fun K hK => ?_
  iterate 2 refine evR_p ?_
  refine evR_e hK ?_; clear hK K
  refine hK2 _ ?_
  refine tr_ret ?_
  (try simp only [thenE, inBlkE])
  simp (maxSteps := 4000000) (disch := first | assumption | omega | (simp only [go_sem, *]; done) | (simp only [go_sem, *]; omega)) only [postA, postO, resV1, fzAll, go_sem, hq, Int.reduceToNat, Nat.reduceBEq, Nat.reduceEqDiff, Nat.reduceAdd, Nat.reduceMul, Nat.reduceLeDiff, Nat.reduceLT, Nat.reduceSub, ↓reduceIte, reduceCtorEq]
  all_goals (rfl)

theorem c59 (r : Rw) (hm : r.coef.length ≤ maxLen) (set : Int) : CallsA Tryd.prog 68 [.agg (encRw r), .ep [.int .i64 set]] (.bool (keptB r set)) := by
  have hq : True := trivial
  refine callsA_of_tr Tryd.func68 rfl (Nat.le_of_ble_eq_true rfl) ?_
  simp only [Tryd.results68, envOf, Nat.reduceAdd]
  refine tr_seq fun K1 hK1 => ?_
  refine tr_region [1, 2] rfl rfl fun K hK => ?_
  iterate 2 refine evR_p ?_
  refine evR_e hK ?_; clear hK K
  refine hK1 _ ?_
  refine tr_seq fun K2 hK2 => ?_
  refine tr_region [3] rfl rfl fun K hK => ?_
  iterate 2 refine evR_p ?_
  refine evR_c (hc := (c55 r hm set)) (k := ?_)
  refine evR_p ?_
  refine evR_e hK ?_; clear hK K
  refine hK2 _ ?_
  refine tr_ret ?_
  (try simp only [thenE, inBlkE])
  simp (maxSteps := 4000000) (disch := first | assumption | omega | (simp only [go_sem, *]; done) | (simp only [go_sem, *]; omega)) only [postA, postO, resV1, fzAll, go_sem, hq, Int.reduceToNat, Nat.reduceBEq, Nat.reduceEqDiff, Nat.reduceAdd, Nat.reduceMul, Nat.reduceLeDiff, Nat.reduceLT, Nat.reduceSub, ↓reduceIte, reduceCtorEq]
  all_goals (skip)

section
attribute [local go_sem] fzL_mapI
theorem c58 (p : Pg) (hr : p.rows.length ≤ maxLen) (hg : p.gain.length ≤ maxLen) (hc : ∀ r ∈ p.rows, r.coef.length ≤ maxLen) (hv : validB p = true) : SeqA Tryd.prog (Value.int .i64) 67 [.ep (encPg p)] (fun xs => xs = choiceL p) 4096 := by
  obtain ⟨v, hv1, hv2, hv3, hv4⟩ := vars_pow hv
  have hq := And.intro hv1 (hv3)
  refine seqA_of_tr Tryd.func67 rfl (by rw [Tryd.results67]) enok_int (Nat.le_of_ble_eq_true rfl) (Nat.le_of_ble_eq_true rfl) fun l ys C hys hCY => ?_
  obtain ⟨y0, rfl⟩ : ∃ y0, ys = [y0] := by match ys, hys with | [y0], _ => exact ⟨y0, rfl⟩
  simp only [List.zipWith_cons_cons, List.zipWith_nil_left, List.zip_cons_cons, List.zip_nil_left, envOf, List.cons_append, List.nil_append, Nat.reduceAdd] at hCY ⊢
  refine tr_seq fun K1 hK1 => ?_
  refine tr_region [0, 1, 6, 7, 1000000, 1000001] rfl rfl fun K hK => ?_
  iterate 4 refine evR_p ?_
  refine evR_e hK ?_; clear hK K
  refine hK1 _ ?_
  refine tr_block ?_
  -- loop 1: live [0, 1, 6, 7]
  refine tr_loopW (fun m σ => ∃ i : Nat, i + m = 2 ^ v ∧ σ = ⟨[(0, .yl l), (1, .eq y0 (.ep [.int .i64 (v : Nat), .sl 6 (encR p.rows), .sl 1 (encI p.gain)])), (6, .int .i64 ((2 ^ v : Nat) : Int)), (7, .int .i64 (i : Nat)), (1000000, .tup ((chL p.rows i).map (V.int .i64))), (1000001, .bool false)], [], 0⟩) (2 ^ v) ?_ ?_
  · exact ⟨_, Wk.refl _, 0, by omega, rfl⟩
  · rintro m σ ⟨i, hi, rfl⟩ KL1 hKL1
    refine tr_seq fun K2 hK2 => ?_
    refine tr_region [0, 1, 6, 7, 8, 1000000, 1000001] rfl rfl fun K hK => ?_
    refine evR_p ?_
    refine evR_e hK ?_; clear hK K
    refine hK2 _ ?_
    refine tr_seq fun K3 hK3 => ?_
    refine tr_condB (fun ht1 => ?_) (fun ht1 => ?_)
    · skip
      (first | (exfalso; simp_all; done) | skip)
      all_goals
        have hil : i < 2 ^ v := by omega
        have hcl := chL_length p.rows i
        replace hq := And.intro hq (hil)
        refine tr_skip ?_
        (try simp only [thenE, inBlkE])
        refine hK3 _ ?_
        refine tr_seq fun K4 hK4 => ?_
        refine tr_block ?_
        refine tr_seq fun K5 hK5 => ?_
        refine tr_region [0, 1, 3, 6, 7, 1000000, 1000001] rfl rfl fun K hK => ?_
        iterate 3 refine evR_p ?_
        refine evR_e hK ?_; clear hK K
        refine hK5 _ ?_
        refine tr_seq fun K6 hK6 => ?_
        refine tr_region [0, 1, 6, 7, 19, 1000000, 1000001] rfl rfl fun K hK => ?_
        iterate 3 refine evR_p ?_
        refine evR_c (hc := (c46 p.rows 68 [.ep [.int .i64 (i : Nat)]] (fun r => keptB r (i : Nat)) okF_68 rfl (fun r h => c59 r (hc r h) (i : Nat)) hr)) (k := ?_)
        refine evR_p ?_
        iterate 2 refine evR_g ?_
        refine evR_stepY rfl rfl fun Kq hKq => ⟨fun hyt => hCY _ _ _ ?_, fun hyt => ⟨.bool false, hKq _ ?_⟩⟩
        (try simp only [decide_eq_true_eq, decide_eq_false_iff_not, Bool.not_eq_true', Bool.not_eq_false', Bool.and_eq_true, Bool.or_eq_true, Bool.and_eq_false_iff, Bool.or_eq_false_iff, beq_true, beq_false] at hyt)
        simp (maxSteps := 4000000) (disch := first | assumption | omega | (simp only [go_sem, *]; done) | (simp only [go_sem, *]; omega)) only [YI, go_sem, hq, Int.reduceToNat, Nat.reduceBEq, Nat.reduceEqDiff, Nat.reduceAdd, Nat.reduceMul, Nat.reduceLeDiff, Nat.reduceLT, Nat.reduceSub, ↓reduceIte, reduceCtorEq]
        (repeat (refine And.intro (by first | assumption | omega | decide | (simp; done) | (simp; omega) | (have hq := hvv hgt; omega) | (simp_all; done)) ?_))
        refine ⟨((i : Nat) : Int), chL p.rows i, [1], ?_⟩
        (repeat (refine And.intro (by first | rfl | exact (show (chL p.rows i).length < 4096 by omega) | (intro t ht; rw [List.mem_singleton] at ht; subst ht; exact ⟨_, List.mem_singleton.2 rfl, rfl⟩) | (rfl)) ?_))
        refine ⟨hKq _ ?_, hKq _ ?_⟩
        all_goals try simp only [goY, stY, keepE, simE, V.simpl, V.simp, List.cons_append, List.nil_append, St.put, St.slot, List.lookup, Option.getD_some, Nat.reduceBEq]
        all_goals (try clear hKq Kq)
        all_goals (try simp only [decide_eq_true_eq, decide_eq_false_iff_not, Bool.not_eq_true', Bool.not_eq_false', Bool.and_eq_true, Bool.or_eq_true, Bool.and_eq_false_iff, Bool.or_eq_false_iff, beq_true, beq_false] at hyt)
        all_goals
          refine evR_g ?_
          refine evR_p ?_
          refine evR_e hK ?_; clear hK K
          refine hK6 _ ?_
          refine tr_condB (fun ht2 => ?_) (fun ht2 => ?_)
          · skip
            (first | (exfalso; simp_all; done) | skip)
            all_goals
              refine tr_ret ?_
              (try simp only [thenE, inBlkE])
              simp (maxSteps := 4000000) (disch := first | assumption | omega | (simp only [go_sem, *]; done) | (simp only [go_sem, *]; omega)) only [postI, go_sem, hq, Int.reduceToNat, Nat.reduceBEq, Nat.reduceEqDiff, Nat.reduceAdd, Nat.reduceMul, Nat.reduceLeDiff, Nat.reduceLT, Nat.reduceSub, ↓reduceIte, reduceCtorEq]
              all_goals (first | exact Or.inl trivial | exact Or.inl rfl | exact Or.inr ⟨_, by unfold choiceL; rw [hv1]; rfl, rfl⟩)
          · skip
            (first | (exfalso; simp_all; done) | skip)
            all_goals
              refine tr_skip ?_
              (try simp only [thenE, inBlkE])
              refine hK4 _ ?_
              refine tr_region [0, 1, 6, 7, 1000000, 1000001] rfl rfl fun K hK => ?_
              iterate 2 refine evR_p ?_
              refine evR_e hK ?_; clear hK K
              refine hKL1 _ ?_
              first
                | exact ⟨m - 1, _, by omega, Wk.cut 0 (by simp only [St.cutOK, List.all_cons, List.all_nil, V.upto, uptoL_mapI, Bool.and_self, List.filter_nil]), i + 1, by omega, by rw [w64 (x := (i : Int) + 1) (by omega), chL_t hyt]; rfl⟩
                | exact ⟨m - 1, _, by omega, Wk.cut 0 (by simp only [St.cutOK, List.all_cons, List.all_nil, V.upto, uptoL_mapI, Bool.and_self, List.filter_nil]), i + 1, by omega, by rw [w64 (x := (i : Int) + 1) (by omega), chL_f hyt]; rfl⟩
    · skip
      (first | (exfalso; simp_all; done) | skip)
      all_goals
        have hil : i = 2 ^ v := by omega
        subst hil
        refine tr_exit ?_
        simp only [thenE, inBlkE, Nat.reduceEqDiff, ↓reduceIte]
        simp (maxSteps := 4000000) (disch := first | assumption | omega | (simp only [go_sem, *]; done) | (simp only [go_sem, *]; omega)) only [postI, go_sem, hq, Int.reduceToNat, Nat.reduceBEq, Nat.reduceEqDiff, Nat.reduceAdd, Nat.reduceMul, Nat.reduceLeDiff, Nat.reduceLT, Nat.reduceSub, ↓reduceIte, reduceCtorEq]
        all_goals (first | exact Or.inl trivial | exact Or.inl rfl | exact Or.inr ⟨_, by unfold choiceL; rw [hv1]; rfl, rfl⟩)
end

end Go.Proofs.YtgmgifmfhpoglaaDoor


namespace Go.Proofs.YtgmgifmfhpoglaaDoor
open Go.RowKit
set_option linter.unusedVariables false
set_option linter.unusedSimpArgs false
set_option maxRecDepth 100000
attribute [local go_sem] Nat.zero_add Nat.add_zero Nat.mul_one eq_self ne_eq not_true_eq_false not_false_eq_true decide_true decide_false decide_not Bool.false_eq_true List.filter_cons List.filter_nil true_and and_true beq_false beq_true Bool.not_true Bool.not_false Bool.and_true Bool.true_and Option.getD_some Option.getD_none imp_self implies_true Int.toNat_natCast List.cons_append List.nil_append List.map_cons List.map_nil List.length_cons List.length_nil List.getD_cons_zero List.getD_cons_succ List.drop_zero List.drop_succ_cons List.take_succ_cons List.take_zero
attribute [local go_sem] isE isO stpO notIn St.bare evO evDO isEff stp St.get St.slot St.put List.lookup un unL ofVal gof nth pickV pkB_false pkB_true binV unV loadV idxV fldV partV buildV fillV lenV sliV appV appR rowsV winV V.parts V.okp V.sc Mem.look_cons Mem.look_nil V.cl V.clL AObj.clo fzAll exps St.fz Mem.fz V.fz V.fzL AObj.fz Option.isSome_some Option.isSome_none Bool.or_true Bool.true_or Bool.or_false Bool.false_or false_and and_false false_or or_false arT_26 arT_27 arT_23 arT_22 arT_31 arT_45 arT_38 arT_55     boolT_23 boolT_3 boolT_32 boolT_4  flatT_23 flatT_3 flatT_32 flatT_4  intT_3 intT_81 lay_27 lay_23 lay_54 lay_22 lay_25 lay_3 lay_37 lay_45 lay_47 lay_4     lay_88 lay_61  okF_11 okF_18  okF_28     okF_16 okF_47 okF_60     okF_26 okF_61    okF_29       okF_31 okF_48 okF_49  okF_50 okF_51 okF_79    okF_63 okF_64 okF_65 okF_52  okF_66 okF_77 okF_78 okF_45  okF_46 okF_53 okF_54 okF_67 okF_68  okF_69 okF_70 okF_71 okF_72   okF_82 okF_83 okF_84 okF_85  okF_73 okF_74 okF_87 okF_88 okF_86 okF_89   plT_54 plT_25 plT_47 plT_96 plT_93 slT_26 slT_27 slT_23 slT_22 slT_31 slT_45 slT_38 slT_55    slT_94     stT_54_4 stT_54_5 stT_25_0 stT_25_1 stT_25_2 stT_47_0  stT_47_2 stT_47_3  stT_96_1 stT_96_2    zeroT_23 zeroT_54 zeroT_25 zeroT_3 zeroT_37 zeroT_45 zeroT_47 zeroT_55  zeroT_96 zeroT_93
attribute [local go_sem] List.getElem?_cons_zero List.getElem?_cons_succ List.zip_cons_cons List.zip_nil_left List.zip_nil_right Bool.false_and Bool.and_false List.length_append List.length_set List.length_replicate List.all_cons List.all_nil encI_length encI_getD encR_length encR_getD encRw encPg spl shp AObj.shp rowM isSt isRpS isRd csh AObj.csh forall_const imp_self
attribute [local simp] encI_length encR_length
section
attribute [local go_sem] encR_takeA encR_one
set_option maxHeartbeats 2000000 in
theorem c14 (p : Pg) (hr : p.rows.length ≤ maxLen) (hg : p.gain.length ≤ maxLen) (hc : ∀ r ∈ p.rows, r.coef.length ≤ maxLen) (hv : validB p = true) : CallsA Tryd.prog 28 [.agg (encPg p)] (.tup [.agg (encSol (solveW p)), .int .i64 0]) := by
  obtain ⟨q0, q1, q2, q3, q4, q5⟩ := validB_all hv
  have hq := hv
  refine callsA_of_tr Tryd.func28 rfl (Nat.le_of_ble_eq_true rfl) ?_
  simp only [Tryd.results28, envOf, Nat.reduceAdd]
  refine tr_seq fun K1 hK1 => ?_
  refine tr_region [1, 2] rfl rfl fun K hK => ?_
  iterate 3 refine evR_p ?_
  refine evR_e hK ?_; clear hK K
  refine hK1 _ ?_
  refine tr_seq fun K2 hK2 => ?_
  refine tr_seq fun K3 hK3 => ?_
  refine tr_region [1, 2, 10] rfl rfl fun K hK => ?_
  refine evR_p ?_
  refine evR_c (hc := (c20 p hr hg hc)) (k := ?_)
  refine evR_p ?_
  refine evR_e hK ?_; clear hK K
  refine hK3 _ ?_
  refine tr_condB (fun ht1 => ?_) (fun ht1 => ?_)
  · skip
    (first | (exfalso; simp_all; done) | skip)
    all_goals
      refine tr_seq fun K4 hK4 => ?_
      refine tr_region [2, 3] rfl rfl fun K hK => ?_
      iterate 3 refine evR_p ?_
      refine evR_e hK ?_; clear hK K
      refine hK4 _ ?_
      refine tr_ret ?_
      (try simp only [thenE, inBlkE])
      simp (maxSteps := 4000000) (disch := first | assumption | omega | (simp only [go_sem, *]; done) | (simp only [go_sem, *]; omega)) only [postA, postO, resV1, fzAll, go_sem, hq, Int.reduceToNat, Nat.reduceBEq, Nat.reduceEqDiff, Nat.reduceAdd, Nat.reduceMul, Nat.reduceLeDiff, Nat.reduceLT, Nat.reduceSub, ↓reduceIte, reduceCtorEq]
      all_goals (simp only [encSol, solveW]; first | (rw [solRows_t (by assumption)]; done) | (rw [solRows_f (by assumption)]; done) | (rw [solRows_t (by assumption)]; rfl) | (rw [solRows_f (by assumption)]; rfl))
  · skip
    (first | (exfalso; simp_all; done) | skip)
    all_goals
      refine tr_skip ?_
      (try simp only [thenE, inBlkE])
      refine hK2 _ ?_
      refine tr_seq fun K5 hK5 => ?_
      refine tr_region [1, 2, 4] rfl rfl fun K hK => ?_
      refine evR_p ?_
      refine evR_e hK ?_; clear hK K
      refine hK5 _ ?_
      refine tr_seq fun K6 hK6 => ?_
      refine tr_seq fun K7 hK7 => ?_
      refine tr_region [1, 2, 4, 13] rfl rfl fun K hK => ?_
      refine evR_p ?_
      refine evR_c (hc := (c38 p)) (k := ?_)
      refine evR_e hK ?_; clear hK K
      refine hK7 _ ?_
      refine tr_block ?_
      -- loop over a function 1: live [1, 2, 4]
      refine tr_rangeFunc (en := V.int .i64) (c58 p hr hg hc hv) enok_int.rel rfl rfl okF_67 rfl (fun pre σ => σ = ⟨[(1, .ptr 0 0), (2, .ptr 1 0), (4, .ptr 2 0)], [(2, .cells [.bool (bestW p.gain pre).1, .int .i64 (bestW p.gain pre).2.1, .int .i64 (bestW p.gain pre).2.2, .nsl]), (1, .cells [.bool false, .int .i64 0, .int .i64 0, .nsl]), (0, .cells (encPg p))], 3⟩) [1, 2, 4] ?_ ?_ ?_
      · rfl
      · rintro pre x σ rfl hpre KL1 hKL1 KA1 hKA1
        simp only [St.rd, List.filter_cons, List.filter_nil, List.map_cons, List.map_nil, Nat.blt_eq, Nat.reduceLT, ↓reduceIte, List.cons_append, List.nil_append, Nat.reduceAdd]
        refine tr_region [1, 4, 5, 2000001, 2000002, 2000004] rfl rfl fun K hK => ?_
        refine evR_p ?_
        refine evR_e hK ?_; clear hK K
        refine hKA1 _ ?_
        refine tr_block ?_
        refine tr_seq fun K8 hK8 => ?_
        refine tr_region [4, 5, 6, 2000001, 2000002, 2000004] rfl rfl fun K hK => ?_
        iterate 3 refine evR_p ?_
        refine evR_c (hc := (c39 _ _ hg)) (k := ?_)
        refine evR_p ?_
        refine evR_e hK ?_; clear hK K
        refine hK8 _ ?_
        refine tr_seq fun K9 hK9 => ?_
        refine tr_region [4, 5, 6, 27, 2000001, 2000002, 2000004] rfl rfl fun K hK => ?_
        iterate 4 refine evR_p ?_
        iterate 4 refine evR_g ?_
        refine evR_p ?_
        refine evR_e hK ?_; clear hK K
        refine hK9 _ ?_
        refine tr_condB (fun ht2 => ?_) (fun ht2 => ?_)
        · skip
          (first | (exfalso; simp_all; done) | skip)
          all_goals
            refine tr_region [2000001, 2000002, 2000004] rfl rfl fun K hK => ?_
            iterate 4 refine evR_p ?_
            refine evR_e hK ?_; clear hK K
            refine hKL1 _ ?_
            simp only [St.bk, List.filterMap_cons, List.filterMap_nil, Nat.ble_eq, Nat.reduceLeDiff, ↓reduceIte, Nat.reduceSub]
            first
              | exact ⟨_, Wk.refl _, by rw [bestW_snoc, bestS_t (by first | (rcases ht2 with h | h <;> simp [h]; done) | (simp_all; done))]; rfl⟩
              | exact ⟨_, Wk.refl _, by rw [bestW_snoc, bestS_f (by first | (simp only [ht2, Bool.not_true, Bool.false_or]; done) | (simp_all; done))]; rfl⟩
        · skip
          (first | (exfalso; simp_all; done) | skip)
          all_goals
            refine tr_skip ?_
            (try simp only [thenE, inBlkE])
            refine hKL1 _ ?_
            simp only [St.bk, List.filterMap_cons, List.filterMap_nil, Nat.ble_eq, Nat.reduceLeDiff, ↓reduceIte, Nat.reduceSub]
            first
              | exact ⟨_, Wk.refl _, by rw [bestW_snoc, bestS_t (by first | (rcases ht2 with h | h <;> simp [h]; done) | (simp_all; done))]; rfl⟩
              | exact ⟨_, Wk.refl _, by rw [bestW_snoc, bestS_f (by first | (simp only [ht2, Bool.not_true, Bool.false_or]; done) | (simp_all; done))]; rfl⟩
      · rintro pre σ hS rfl
        subst hS
        have eb : bestW p.gain (choiceL p) = solveB p := rfl
        rw [eb]
        obtain ⟨vn, hvn⟩ := Int.eq_ofNat_of_zero_le q0
        refine hK6 _ ?_
        refine tr_seq fun K10 hK10 => ?_
        refine tr_region [1, 2, 4, 7] rfl rfl fun K hK => ?_
        iterate 3 refine evR_p ?_
        refine evR_e hK ?_; clear hK K
        refine hK10 _ ?_
        refine tr_seq fun K11 hK11 => ?_
        refine tr_seq fun K12 hK12 => ?_
        refine tr_region [1, 2, 4, 7, 34] rfl rfl fun K hK => ?_
        iterate 2 refine evR_p ?_
        refine evR_e hK ?_; clear hK K
        refine hK12 _ ?_
        refine tr_condB (fun ht3 => ?_) (fun ht3 => ?_)
        · skip
          (first | (exfalso; simp_all; done) | skip)
          all_goals
            refine tr_draw [45] [2, 4, 7] mixed rfl (by kernel_rfl) rfl fun K hK => ?_
            iterate 9 refine evD_p ?_
            refine evD_c (hc := (c40 p (by omega) _)) (k := ?_)
            refine evD_bs ?_
            iterate 2 refine evD_p ?_
            refine evD_e hK ?_; clear hK K
            refine hK11 _ ?_
            refine tr_seq fun K13 hK13 => ?_
            refine tr_region [2, 4] rfl rfl fun K hK => ?_
            refine evR_p ?_
            refine evR_c (hc := (solRows_t (p := p) (b := solveB p) (by assumption) ▸ (c41 (solRows p (solveB p)) (by rw [solRows_t (by assumption)]; simp only [List.length_append, List.length_cons, List.length_nil, maxLen]; omega) p.vars.toNat (by omega) (solRows_coef hv _) (solve_inf hv)))) (k := ?_)
            iterate 2 refine evR_p ?_
            refine evR_e hK ?_; clear hK K
            refine hK13 _ ?_
            refine tr_seq fun K14 hK14 => ?_
            refine tr_region [2, 3] rfl rfl fun K hK => ?_
            iterate 3 refine evR_p ?_
            refine evR_e hK ?_; clear hK K
            refine hK14 _ ?_
            refine tr_ret ?_
            (try simp only [thenE, inBlkE])
            simp (maxSteps := 4000000) (disch := first | assumption | omega | (simp only [go_sem, *]; done) | (simp only [go_sem, *]; omega)) only [postA, postO, resV1, fzAll, go_sem, hq, Int.reduceToNat, Nat.reduceBEq, Nat.reduceEqDiff, Nat.reduceAdd, Nat.reduceMul, Nat.reduceLeDiff, Nat.reduceLT, Nat.reduceSub, ↓reduceIte, reduceCtorEq]
            all_goals (simp only [encSol, solveW]; first | (rw [solRows_t (by assumption)]; done) | (rw [solRows_f (by assumption)]; done) | (rw [solRows_t (by assumption)]; rfl) | (rw [solRows_f (by assumption)]; rfl))
        · skip
          (first | (exfalso; simp_all; done) | skip)
          all_goals
            refine tr_skip ?_
            (try simp only [thenE, inBlkE])
            refine hK11 _ ?_
            refine tr_seq fun K15 hK15 => ?_
            refine tr_region [2, 4] rfl rfl fun K hK => ?_
            refine evR_p ?_
            refine evR_c (hc := (solRows_f (p := p) (b := solveB p) (by assumption) ▸ (c41 (solRows p (solveB p)) (by rw [solRows_f (by assumption)]; exact hr) p.vars.toNat (by omega) (solRows_coef hv _) (solve_inf hv)))) (k := ?_)
            iterate 2 refine evR_p ?_
            refine evR_e hK ?_; clear hK K
            refine hK15 _ ?_
            refine tr_seq fun K16 hK16 => ?_
            refine tr_region [2, 3] rfl rfl fun K hK => ?_
            iterate 3 refine evR_p ?_
            refine evR_e hK ?_; clear hK K
            refine hK16 _ ?_
            refine tr_ret ?_
            (try simp only [thenE, inBlkE])
            simp (maxSteps := 4000000) (disch := first | assumption | omega | (simp only [go_sem, *]; done) | (simp only [go_sem, *]; omega)) only [postA, postO, resV1, fzAll, go_sem, hq, Int.reduceToNat, Nat.reduceBEq, Nat.reduceEqDiff, Nat.reduceAdd, Nat.reduceMul, Nat.reduceLeDiff, Nat.reduceLT, Nat.reduceSub, ↓reduceIte, reduceCtorEq]
            all_goals (simp only [encSol, solveW]; first | (rw [solRows_t (by assumption)]; done) | (rw [solRows_f (by assumption)]; done) | (rw [solRows_t (by assumption)]; rfl) | (rw [solRows_f (by assumption)]; rfl))
end

section
attribute [local go_sem] encR_takeA encR_one
set_option maxHeartbeats 2000000 in
theorem c14n (p : Pg) (hr : p.rows.length ≤ maxLen) (hg : p.gain.length ≤ maxLen) (hc : ∀ r ∈ p.rows, r.coef.length ≤ maxLen) (hv : validB p = false) : CallsA Tryd.prog 28 [.agg (encPg p)] (.tup [.agg [.bool false, .int .i64 0, .int .i64 0, .nsl], .int .i64 230]) := by
  have hq := hv
  refine callsA_of_tr Tryd.func28 rfl (Nat.le_of_ble_eq_true rfl) ?_
  simp only [Tryd.results28, envOf, Nat.reduceAdd]
  refine tr_seq fun K1 hK1 => ?_
  refine tr_region [1, 2] rfl rfl fun K hK => ?_
  iterate 3 refine evR_p ?_
  refine evR_e hK ?_; clear hK K
  refine hK1 _ ?_
  refine tr_seq fun K2 hK2 => ?_
  refine tr_seq fun K3 hK3 => ?_
  refine tr_region [1, 2, 10] rfl rfl fun K hK => ?_
  refine evR_p ?_
  refine evR_c (hc := (c20 p hr hg hc)) (k := ?_)
  refine evR_p ?_
  refine evR_e hK ?_; clear hK K
  refine hK3 _ ?_
  refine tr_condB (fun ht1 => ?_) (fun ht1 => ?_)
  · skip
    (first | (exfalso; simp_all; done) | skip)
    all_goals
      refine tr_seq fun K4 hK4 => ?_
      refine tr_region [2, 3] rfl rfl fun K hK => ?_
      iterate 3 refine evR_p ?_
      refine evR_e hK ?_; clear hK K
      refine hK4 _ ?_
      refine tr_ret ?_
      (try simp only [thenE, inBlkE])
      simp (maxSteps := 4000000) (disch := first | assumption | omega | (simp only [go_sem, *]; done) | (simp only [go_sem, *]; omega)) only [postA, postO, resV1, fzAll, go_sem, hq, Int.reduceToNat, Nat.reduceBEq, Nat.reduceEqDiff, Nat.reduceAdd, Nat.reduceMul, Nat.reduceLeDiff, Nat.reduceLT, Nat.reduceSub, ↓reduceIte, reduceCtorEq]
      all_goals (rfl)
  · skip
    (first | (exfalso; simp_all; done) | skip)
    all_goals
      refine tr_skip ?_
      (try simp only [thenE, inBlkE])
      refine hK2 _ ?_
      refine tr_seq fun K5 hK5 => ?_
      refine tr_region [1, 2, 4] rfl rfl fun K hK => ?_
      refine evR_p ?_
      refine evR_e hK ?_; clear hK K
      refine hK5 _ ?_
      refine tr_seq fun K6 hK6 => ?_
      refine tr_seq fun K7 hK7 => ?_
      refine tr_region [1, 2, 4, 13] rfl rfl fun K hK => ?_
      refine evR_p ?_
      refine evR_c (hc := (c38 p)) (k := ?_)
      refine evR_e hK ?_; clear hK K
      refine hK7 _ ?_
      refine tr_block ?_
      -- loop over a function 1: live [1, 2, 4]
      refine tr_rangeFunc (en := V.int .i64) (c58 p hr hg hc hv) enok_int.rel rfl rfl okF_67 rfl (fun pre σ => σ = ⟨[(1, .ptr 0 0), (2, .ptr 1 0), (4, .ptr 2 0)], [(2, .cells [.bool (bestW p.gain pre).1, .int .i64 (bestW p.gain pre).2.1, .int .i64 (bestW p.gain pre).2.2, .nsl]), (1, .cells [.bool false, .int .i64 0, .int .i64 0, .nsl]), (0, .cells (encPg p))], 3⟩) [1, 2, 4] ?_ ?_ ?_
      · rfl
      · rintro pre x σ rfl hpre KL1 hKL1 KA1 hKA1
        simp only [St.rd, List.filter_cons, List.filter_nil, List.map_cons, List.map_nil, Nat.blt_eq, Nat.reduceLT, ↓reduceIte, List.cons_append, List.nil_append, Nat.reduceAdd]
        refine tr_region [1, 4, 5, 2000001, 2000002, 2000004] rfl rfl fun K hK => ?_
        refine evR_p ?_
        refine evR_e hK ?_; clear hK K
        refine hKA1 _ ?_
        refine tr_block ?_
        refine tr_seq fun K8 hK8 => ?_
        refine tr_region [4, 5, 6, 2000001, 2000002, 2000004] rfl rfl fun K hK => ?_
        iterate 3 refine evR_p ?_
        refine evR_c (hc := (c39 _ _ hg)) (k := ?_)
        refine evR_p ?_
        refine evR_e hK ?_; clear hK K
        refine hK8 _ ?_
        refine tr_seq fun K9 hK9 => ?_
        refine tr_region [4, 5, 6, 27, 2000001, 2000002, 2000004] rfl rfl fun K hK => ?_
        iterate 4 refine evR_p ?_
        iterate 4 refine evR_g ?_
        refine evR_p ?_
        refine evR_e hK ?_; clear hK K
        refine hK9 _ ?_
        refine tr_condB (fun ht2 => ?_) (fun ht2 => ?_)
        · skip
          (first | (exfalso; simp_all; done) | skip)
          all_goals
            refine tr_region [2000001, 2000002, 2000004] rfl rfl fun K hK => ?_
            iterate 4 refine evR_p ?_
            refine evR_e hK ?_; clear hK K
            refine hKL1 _ ?_
            simp only [St.bk, List.filterMap_cons, List.filterMap_nil, Nat.ble_eq, Nat.reduceLeDiff, ↓reduceIte, Nat.reduceSub]
            first
              | exact ⟨_, Wk.refl _, by rw [bestW_snoc, bestS_t (by first | (rcases ht2 with h | h <;> simp [h]; done) | (simp_all; done))]; rfl⟩
              | exact ⟨_, Wk.refl _, by rw [bestW_snoc, bestS_f (by first | (simp only [ht2, Bool.not_true, Bool.false_or]; done) | (simp_all; done))]; rfl⟩
        · skip
          (first | (exfalso; simp_all; done) | skip)
          all_goals
            refine tr_skip ?_
            (try simp only [thenE, inBlkE])
            refine hKL1 _ ?_
            simp only [St.bk, List.filterMap_cons, List.filterMap_nil, Nat.ble_eq, Nat.reduceLeDiff, ↓reduceIte, Nat.reduceSub]
            first
              | exact ⟨_, Wk.refl _, by rw [bestW_snoc, bestS_t (by first | (rcases ht2 with h | h <;> simp [h]; done) | (simp_all; done))]; rfl⟩
              | exact ⟨_, Wk.refl _, by rw [bestW_snoc, bestS_f (by first | (simp only [ht2, Bool.not_true, Bool.false_or]; done) | (simp_all; done))]; rfl⟩
      · rintro pre σ hS rfl
        subst hS
        have eb : bestW p.gain (choiceL p) = solveB p := rfl
        rw [eb]
        obtain ⟨vn, hvn⟩ := Int.eq_ofNat_of_zero_le q0
        refine hK6 _ ?_
        refine tr_seq fun K10 hK10 => ?_
        refine tr_region [1, 2, 4, 7] rfl rfl fun K hK => ?_
        iterate 3 refine evR_p ?_
        refine evR_e hK ?_; clear hK K
        refine hK10 _ ?_
        refine tr_seq fun K11 hK11 => ?_
        refine tr_seq fun K12 hK12 => ?_
        refine tr_region [1, 2, 4, 7, 34] rfl rfl fun K hK => ?_
        iterate 2 refine evR_p ?_
        refine evR_e hK ?_; clear hK K
        refine hK12 _ ?_
        refine tr_condB (fun ht3 => ?_) (fun ht3 => ?_)
        · skip
          (first | (exfalso; simp_all; done) | skip)
          all_goals
            refine tr_draw [45] [2, 4, 7] mixed rfl (by kernel_rfl) rfl fun K hK => ?_
            iterate 9 refine evD_p ?_
            refine evD_c (hc := (c40 p (by omega) _)) (k := ?_)
            refine evD_bs ?_
            iterate 2 refine evD_p ?_
            refine evD_e hK ?_; clear hK K
            refine hK11 _ ?_
            refine tr_seq fun K13 hK13 => ?_
            refine tr_region [2, 4] rfl rfl fun K hK => ?_
            refine evR_p ?_
            refine evR_c (hc := (solRows_t (p := p) (b := solveB p) (by assumption) ▸ (c41 (solRows p (solveB p)) (by rw [solRows_t (by assumption)]; simp only [List.length_append, List.length_cons, List.length_nil, maxLen]; omega) p.vars.toNat (by omega) (solRows_coef hv _) (solve_inf hv)))) (k := ?_)
            iterate 2 refine evR_p ?_
            refine evR_e hK ?_; clear hK K
            refine hK13 _ ?_
            refine tr_seq fun K14 hK14 => ?_
            refine tr_region [2, 3] rfl rfl fun K hK => ?_
            iterate 3 refine evR_p ?_
            refine evR_e hK ?_; clear hK K
            refine hK14 _ ?_
            refine tr_ret ?_
            (try simp only [thenE, inBlkE])
            simp (maxSteps := 4000000) (disch := first | assumption | omega | (simp only [go_sem, *]; done) | (simp only [go_sem, *]; omega)) only [postA, postO, resV1, fzAll, go_sem, hq, Int.reduceToNat, Nat.reduceBEq, Nat.reduceEqDiff, Nat.reduceAdd, Nat.reduceMul, Nat.reduceLeDiff, Nat.reduceLT, Nat.reduceSub, ↓reduceIte, reduceCtorEq]
            all_goals (rfl)
        · skip
          (first | (exfalso; simp_all; done) | skip)
          all_goals
            refine tr_skip ?_
            (try simp only [thenE, inBlkE])
            refine hK11 _ ?_
            refine tr_seq fun K15 hK15 => ?_
            refine tr_region [2, 4] rfl rfl fun K hK => ?_
            refine evR_p ?_
            refine evR_c (hc := (solRows_f (p := p) (b := solveB p) (by assumption) ▸ (c41 (solRows p (solveB p)) (by rw [solRows_f (by assumption)]; exact hr) p.vars.toNat (by omega) (solRows_coef hv _) (solve_inf hv)))) (k := ?_)
            iterate 2 refine evR_p ?_
            refine evR_e hK ?_; clear hK K
            refine hK15 _ ?_
            refine tr_seq fun K16 hK16 => ?_
            refine tr_region [2, 3] rfl rfl fun K hK => ?_
            iterate 3 refine evR_p ?_
            refine evR_e hK ?_; clear hK K
            refine hK16 _ ?_
            refine tr_ret ?_
            (try simp only [thenE, inBlkE])
            simp (maxSteps := 4000000) (disch := first | assumption | omega | (simp only [go_sem, *]; done) | (simp only [go_sem, *]; omega)) only [postA, postO, resV1, fzAll, go_sem, hq, Int.reduceToNat, Nat.reduceBEq, Nat.reduceEqDiff, Nat.reduceAdd, Nat.reduceMul, Nat.reduceLeDiff, Nat.reduceLT, Nat.reduceSub, ↓reduceIte, reduceCtorEq]
            all_goals (rfl)
end

end Go.Proofs.YtgmgifmfhpoglaaDoor


namespace Go.Proofs.YtgmgifmfhpoglaaDoor
open Go.RowKit
set_option linter.unusedVariables false
set_option linter.unusedSimpArgs false
set_option maxRecDepth 100000
attribute [local go_sem] Nat.zero_add Nat.add_zero Nat.mul_one eq_self ne_eq not_true_eq_false not_false_eq_true decide_true decide_false decide_not Bool.false_eq_true List.filter_cons List.filter_nil true_and and_true beq_false beq_true Bool.not_true Bool.not_false Bool.and_true Bool.true_and Option.getD_some Option.getD_none imp_self implies_true Int.toNat_natCast List.cons_append List.nil_append List.map_cons List.map_nil List.length_cons List.length_nil List.getD_cons_zero List.getD_cons_succ List.drop_zero List.drop_succ_cons List.take_succ_cons List.take_zero
attribute [local go_sem] isE isO stpO notIn St.bare evO evDO isEff stp St.get St.slot St.put List.lookup un unL ofVal gof nth pickV pkB_false pkB_true binV unV loadV idxV fldV partV buildV fillV lenV sliV appV appR rowsV winV V.parts V.okp V.sc Mem.look_cons Mem.look_nil V.cl V.clL AObj.clo fzAll exps St.fz Mem.fz V.fz V.fzL AObj.fz Option.isSome_some Option.isSome_none Bool.or_true Bool.true_or Bool.or_false Bool.false_or false_and and_false false_or or_false arT_102 arT_103 arT_22 arT_23 arT_26 arT_27 arT_31 arT_38 arT_45 arT_55 arT_85 arT_86 arT_9 boolT_100 boolT_23 boolT_3 boolT_32 boolT_4 boolT_98 flatT_100 flatT_23 flatT_3 flatT_32 flatT_4 flatT_98 intT_100 intT_3 intT_5 intT_81 intT_83 intT_98 lay_22 lay_23 lay_25 lay_27 lay_3 lay_37 lay_4 lay_45 lay_47 lay_5 lay_54 lay_61 lay_66 lay_82 lay_88 okF_10 okF_11 okF_12 okF_13 okF_14 okF_15 okF_16 okF_17 okF_18 okF_19 okF_20 okF_21 okF_22 okF_23 okF_24 okF_25 okF_26 okF_27 okF_28 okF_29 okF_3 okF_30 okF_31 okF_32 okF_33 okF_34 okF_35 okF_36 okF_37 okF_38 okF_39 okF_4 okF_40 okF_41 okF_42 okF_43 okF_44 okF_45 okF_46 okF_47 okF_48 okF_49 okF_5 okF_50 okF_51 okF_52 okF_53 okF_54 okF_55 okF_56 okF_57 okF_58 okF_59 okF_6 okF_60 okF_61 okF_62 okF_63 okF_64 okF_65 okF_66 okF_67 okF_68 okF_69 okF_7 okF_70 okF_71 okF_72 okF_73 okF_74 okF_75 okF_76 okF_77 okF_78 okF_79 okF_8 okF_80 okF_81 okF_82 okF_83 okF_84 okF_85 okF_86 okF_87 okF_88 okF_89 okF_9 plT_25 plT_47 plT_54 plT_93 plT_96 slT_102 slT_103 slT_22 slT_23 slT_26 slT_27 slT_31 slT_38 slT_45 slT_55 slT_85 slT_86 slT_94 stT_25_0 stT_25_1 stT_25_2 stT_47_0 stT_47_2 stT_47_3 stT_54_4 stT_54_5 stT_96_1 stT_96_2 strT_9 zeroT_23 zeroT_25 zeroT_3 zeroT_37 zeroT_4 zeroT_45 zeroT_47 zeroT_54 zeroT_55 zeroT_66 zeroT_82 zeroT_85 zeroT_86 zeroT_93 zeroT_96
attribute [local go_sem] List.getElem?_cons_zero List.getElem?_cons_succ List.zip_cons_cons List.zip_nil_left List.zip_nil_right Bool.false_and Bool.and_false List.length_append List.length_set List.length_replicate List.all_cons List.all_nil encI_length encI_getD encR_length encR_getD encRw encPg spl shp AObj.shp rowM isSt isRpS isRd csh AObj.csh forall_const imp_self
attribute [local simp] encI_length encR_length cellsI_length
theorem k32 (p : Pg) (hr : p.rows.length ≤ maxLen) (hg : p.gain.length ≤ maxLen) (hc : ∀ r ∈ p.rows, r.coef.length ≤ maxLen) : CallsA Tryd.prog 32 [.agg (encPg p)] (.bool (smallB p)) := by
  have hq : True := trivial
  refine callsA_of_tr Tryd.func32 rfl (Nat.le_of_ble_eq_true rfl) ?_
  simp only [Tryd.results32, envOf, Nat.reduceAdd]
  refine tr_seq fun K1 hK1 => ?_
  refine tr_region [1] rfl rfl fun K hK => ?_
  iterate 2 refine evR_p ?_
  refine evR_e hK ?_; clear hK K
  refine hK1 _ ?_
  refine tr_seq fun K2 hK2 => ?_
  refine tr_region [2] rfl rfl fun K hK => ?_
  iterate 5 refine evR_p ?_
  refine evR_g ?_
  refine evR_gc (hc := (c20 p hr hg hc)) (k := ?_)
  iterate 2 refine evR_p ?_
  refine evR_e hK ?_; clear hK K
  refine hK2 _ ?_
  refine tr_ret ?_
  (try simp only [thenE, inBlkE])
  simp (maxSteps := 4000000) (disch := first | assumption | omega | (simp only [go_sem, *]; done) | (simp only [go_sem, *]; omega)) only [postA, postO, resV1, fzAll, go_sem, hq, Int.reduceToNat, Nat.reduceBEq, Nat.reduceEqDiff, Nat.reduceAdd, Nat.reduceMul, Nat.reduceLeDiff, Nat.reduceLT, Nat.reduceSub, ↓reduceIte, reduceCtorEq]
  all_goals (simp [smallB])

theorem k42 (p : Pg) (hr : p.rows.length ≤ maxLen) (hg : p.gain.length ≤ maxLen) (hc : ∀ r ∈ p.rows, r.coef.length ≤ maxLen) (l : List Int) (hl : l.length ≤ maxLen) : CallsA Tryd.prog 42 [.agg (encPg p), .sl 1 (encI l)] (.tup [.int .i64 (tbS (tbW p.rows.length l)), .bool (tbI (tbW p.rows.length l))]) := by
  unfold maxLen at hr hl
  have hq : True := trivial
  refine callsA_of_tr Tryd.func42 rfl (Nat.le_of_ble_eq_true rfl) ?_
  simp only [Tryd.results42, envOf, Nat.reduceAdd]
  refine tr_seq fun K1 hK1 => ?_
  refine tr_region [1, 2] rfl rfl fun K hK => ?_
  iterate 3 refine evR_p ?_
  refine evR_e hK ?_; clear hK K
  refine hK1 _ ?_
  refine tr_seq fun K2 hK2 => ?_
  refine tr_region [1, 2, 6, 7] rfl rfl fun K hK => ?_
  iterate 2 refine evR_p ?_
  refine evR_e hK ?_; clear hK K
  refine hK2 _ ?_
  refine tr_seq fun K3 hK3 => ?_
  refine tr_seq fun K4 hK4 => ?_
  refine tr_region [2, 6, 7, 10, 11, 12] rfl rfl fun K hK => ?_
  iterate 3 refine evR_p ?_
  refine evR_e hK ?_; clear hK K
  refine hK4 _ ?_
  refine tr_block ?_
  -- loop 1: live [2, 6, 7, 10, 11, 12]
  refine tr_loopW (fun m σ => ∃ (i : Nat) (o t : Int), i + m = l.length ∧ tbG p.rows.length l i = some (o, t) ∧ σ = ⟨[(2, .ptr 0 0), (6, .int .i64 o), (7, .int .i64 t), (10, .sl 1 (encI l)), (11, .int .i64 l.length), (12, .int .i64 (i : Nat))], [(0, .cells (encPg p))], 1⟩) (l.length) ?_ ?_
  · exact ⟨_, Wk.refl _, 0, 0, -1, by omega, rfl, rfl⟩
  · rintro m σ ⟨i, o, t, hi, htb, rfl⟩ KL1 hKL1
    refine tr_seq fun K5 hK5 => ?_
    refine tr_region [2, 6, 7, 10, 11, 12, 13] rfl rfl fun K hK => ?_
    refine evR_p ?_
    refine evR_e hK ?_; clear hK K
    refine hK5 _ ?_
    refine tr_seq fun K6 hK6 => ?_
    refine tr_condB (fun ht1 => ?_) (fun ht1 => ?_)
    · skip
      all_goals
        have hil : i < l.length := by omega
        obtain ⟨hla, hlb⟩ := tbG_last htb
        replace hq := And.intro hq (hil)
        refine tr_skip ?_
        (try simp only [thenE, inBlkE])
        refine hK6 _ ?_
        refine tr_seq fun K7 hK7 => ?_
        refine tr_block ?_
        refine tr_seq fun K8 hK8 => ?_
        refine tr_region [2, 6, 7, 9, 10, 11, 12] rfl rfl fun K hK => ?_
        iterate 3 refine evR_p ?_
        refine evR_e hK ?_; clear hK K
        refine hK8 _ ?_
        refine tr_seq fun K9 hK9 => ?_
        refine tr_seq fun K10 hK10 => ?_
        refine tr_region [2, 6, 9, 10, 11, 12, 25] rfl rfl fun K hK => ?_
        iterate 4 refine evR_p ?_
        iterate 5 refine evR_g ?_
        refine evR_p ?_
        refine evR_e hK ?_; clear hK K
        refine hK10 _ ?_
        refine tr_condB (fun ht2 => ?_) (fun ht2 => ?_)
        · skip
          all_goals
            refine tr_seq fun K11 hK11 => ?_
            refine tr_region [4, 5] rfl rfl fun K hK => ?_
            iterate 2 refine evR_p ?_
            refine evR_e hK ?_; clear hK K
            refine hK11 _ ?_
            refine tr_ret ?_
            (try simp only [thenE, inBlkE])
            simp (maxSteps := 4000000) (disch := first | assumption | omega | (simp only [go_sem, *]; done) | (simp only [go_sem, *]; omega)) only [postA, postO, resV1, fzAll, go_sem, hq, Int.reduceToNat, Nat.reduceBEq, Nat.reduceEqDiff, Nat.reduceAdd, Nat.reduceMul, Nat.reduceLeDiff, Nat.reduceLT, Nat.reduceSub, ↓reduceIte, reduceCtorEq]
            all_goals (first | (rw [tbW, htb]; rfl) | (rw [tbW_none (k := i + 1) (by omega) (tbG_no htb (by omega))]; rfl))
        · skip
          all_goals
            refine tr_skip ?_
            (try simp only [thenE, inBlkE])
            refine hK9 _ ?_
            refine tr_region [2, 6, 7, 10, 11, 12] rfl rfl fun K hK => ?_
            iterate 7 refine evR_p ?_
            refine evR_e hK ?_; clear hK K
            refine hK7 _ ?_
            refine tr_region [2, 6, 7, 10, 11, 12] rfl rfl fun K hK => ?_
            iterate 2 refine evR_p ?_
            refine evR_e hK ?_; clear hK K
            refine hKL1 _ ?_
            exact ⟨m - 1, _, by omega, Wk.refl _, i + 1, _, _, by omega, tbG_yes htb (by omega) (by omega), by rw [w64 (x := (i : Int) + 1) (by omega)]; rfl⟩
    · skip
      all_goals
        have hil : i = l.length := by omega
        subst hil
        refine tr_exit ?_
        simp only [thenE, inBlkE, Nat.reduceEqDiff, ↓reduceIte]
        refine hK3 _ ?_
        refine tr_seq fun K12 hK12 => ?_
        refine tr_region [4, 5] rfl rfl fun K hK => ?_
        iterate 3 refine evR_p ?_
        refine evR_e hK ?_; clear hK K
        refine hK12 _ ?_
        refine tr_ret ?_
        (try simp only [thenE, inBlkE])
        simp (maxSteps := 4000000) (disch := first | assumption | omega | (simp only [go_sem, *]; done) | (simp only [go_sem, *]; omega)) only [postA, postO, resV1, fzAll, go_sem, hq, Int.reduceToNat, Nat.reduceBEq, Nat.reduceEqDiff, Nat.reduceAdd, Nat.reduceMul, Nat.reduceLeDiff, Nat.reduceLT, Nat.reduceSub, ↓reduceIte, reduceCtorEq]
        all_goals (first | (rw [tbW, htb]; rfl) | (rw [tbW_none (k := i + 1) (by omega) (tbG_no htb (by omega))]; rfl))

end Go.Proofs.YtgmgifmfhpoglaaDoor


namespace Go.Proofs.YtgmgifmfhpoglaaDoor
open Go.RowKit
set_option linter.unusedVariables false
set_option linter.unusedSimpArgs false
def setN (l : List Int) : Nat := l.foldl (fun a r => a ||| 2 ^ r.toNat) 0
def setTo (l : List Int) (k : Nat) : Nat := setN (l.take k)
theorem setTo_succ {l : List Int} {k : Nat} (h : k < l.length) : setTo l (k + 1) = setTo l k ||| 2 ^ (l.getD k 0).toNat := by
  unfold setTo setN
  have e : l.take (k + 1) = l.take k ++ [l.getD k 0] := by
    rw [List.take_add_one]; simp [List.getD, h]
  rw [e, List.foldl_append]; rfl
theorem setTo_all (l : List Int) : setTo l l.length = setN l := by simp [setTo]
theorem setTo_lt {l : List Int} {n : Nat} (h : ∀ r ∈ l, 0 ≤ r ∧ r < (n : Int)) : ∀ k, setTo l k < 2 ^ n
  | 0 => by simp [setTo, setN, Nat.two_pow_pos]
  | k + 1 => by
    by_cases hk : k < l.length
    · rw [setTo_succ hk]
      have hm := h (l.getD k 0) (getD_mem hk)
      exact Nat.or_lt_two_pow (setTo_lt h k) (Nat.pow_lt_pow_right (by omega) (by omega))
    · have e : setTo l (k + 1) = setTo l k := by unfold setTo; rw [List.take_of_length_le (by omega), List.take_of_length_le (by omega)]
      rw [e]; exact setTo_lt h k
theorem or_step {a : Nat} {r : Int} (ha : a < 4096) (h0 : 0 ≤ r) (h1 : r < 12) : bitsV .or .i64 (a : Int) (shlW .i64 1 r) = ((a ||| 2 ^ r.toNat : Nat) : Int) := by
  obtain ⟨k, rfl⟩ := Int.eq_ofNat_of_zero_le h0
  have hk : k < 12 := by omega
  have hp : 2 ^ k < 65536 := Nat.lt_of_lt_of_le (Nat.pow_lt_pow_right (by omega) hk) (by decide)
  rw [shl1 (by omega), orN (by omega) hp]; rfl
def tab1 (p : Pg) : Nat → List Bool
  | 0 => List.replicate 4096 false
  | c + 1 => (tab1 p c).set (setN (brokenW p (c : Nat))) true
def clo (b : List Bool) (r : Nat) : Nat → List Bool
  | 0 => b
  | s + 1 => (clo b r s).set s ((clo b r s).getD s false || (s.testBit r && (clo b r s).getD (s - 2 ^ r) false))
def cloR (b : List Bool) (n : Nat) : Nat → List Bool
  | 0 => b
  | r + 1 => clo (cloR b n r) r (2 ^ n)
def tabW (p : Pg) : List Bool := cloR (tab1 p (2 ^ p.vars.toNat)) p.rows.length p.rows.length
theorem tab1_length (p : Pg) : ∀ c, (tab1 p c).length = 4096
  | 0 => List.length_replicate
  | c + 1 => by rw [tab1, List.length_set, tab1_length p c]
theorem clo_length (b : List Bool) (r : Nat) : ∀ s, (clo b r s).length = b.length
  | 0 => rfl
  | s + 1 => by rw [clo, List.length_set, clo_length b r s]
theorem cloR_length (b : List Bool) (n : Nat) : ∀ r, (cloR b n r).length = b.length
  | 0 => rfl
  | r + 1 => by rw [cloR, clo_length, cloR_length b n r]
end Go.Proofs.YtgmgifmfhpoglaaDoor

namespace Go.Proofs.YtgmgifmfhpoglaaDoor
open Go.RowKit
set_option linter.unusedVariables false
set_option linter.unusedSimpArgs false
theorem bit_lt {s n i : Nat} (hs : s < 2 ^ n) (hi : s.testBit i = true) : i < n := by
  rcases Nat.lt_or_ge i n with h | h
  · exact h
  · rw [Nat.testBit_lt_two_pow (Nat.lt_of_lt_of_le hs (Nat.pow_le_pow_right (by omega) h))] at hi; cases hi
theorem pow_4096 {n : Nat} (h : n ≤ 12) : 2 ^ n ≤ 4096 := Nat.pow_le_pow_right (n := 2) (by omega) h
/-- A set without one of its bits. -/
theorem testBit_drop {s r : Nat} (h : s.testBit r = true) (i : Nat) : (s - 2 ^ r).testBit i = (s.testBit i && !decide (i = r)) := by
  have hp := Nat.two_pow_pos r
  have e1 := Nat.div_add_mod s (2 ^ r)
  have hm := Nat.mod_lt s hp
  have ho : s / 2 ^ r % 2 = 1 := by
    have := Nat.testBit_eq_decide_div_mod_eq (x := s) (i := r)
    rw [this] at h; simpa using h
  generalize s / 2 ^ r = q at e1 ho
  generalize s % 2 ^ r = ρ at e1 hm
  obtain ⟨m, rfl⟩ : ∃ m, q = 2 * m + 1 := ⟨q / 2, by omega⟩
  have e2 : s - 2 ^ r = 2 ^ r * (2 * m) + ρ := by rw [← e1, Nat.mul_add]; omega
  rw [e2, ← e1, Nat.testBit_two_pow_mul_add _ hm, Nat.testBit_two_pow_mul_add _ hm]
  by_cases hi : i < r
  · rw [if_pos hi, if_pos hi]
    have : i ≠ r := by omega
    simp [this]
  · rw [if_neg hi, if_neg hi]
    rcases Nat.lt_or_ge r i with h2 | h2
    · obtain ⟨k, rfl⟩ : ∃ k, i = r + (k + 1) := ⟨i - r - 1, by omega⟩
      have e3 : r + (k + 1) - r = k + 1 := by omega
      rw [e3, Nat.testBit_succ, Nat.testBit_succ]
      have e4 : 2 * m / 2 = m := by omega
      have e5 : (2 * m + 1) / 2 = m := by omega
      rw [e4, e5]
      simp
    · have : i = r := by omega
      subst this
      simp
theorem testBit_or_pow (s r i : Nat) : (s ||| 2 ^ r).testBit i = (s.testBit i || decide (r = i)) := by
  rw [Nat.testBit_or, Nat.testBit_two_pow]
/-- What is said of a list as a set. -/
theorem foldl_bit : ∀ (l : List Int) (a i : Nat), (∀ x ∈ l, 0 ≤ x) → ((l.foldl (fun a r => a ||| 2 ^ r.toNat) a).testBit i = true ↔ a.testBit i = true ∨ (i : Int) ∈ l)
  | [], a, i, _ => by simp
  | x :: l, a, i, h => by
    have h0 := h x (by simp)
    rw [List.foldl_cons, foldl_bit l _ i (fun y hy => h y (by simp [hy])), testBit_or_pow]
    simp only [Bool.or_eq_true, decide_eq_true_eq, List.mem_cons]
    constructor
    · rintro ((h1 | h1) | h1)
      · exact .inl h1
      · exact .inr (.inl (by omega))
      · exact .inr (.inr h1)
    · rintro (h1 | h1 | h1)
      · exact .inl (.inl h1)
      · exact .inl (.inr (by omega))
      · exact .inr h1
theorem setN_bit {l : List Int} (h : ∀ x ∈ l, 0 ≤ x) (i : Nat) : (setN l).testBit i = true ↔ (i : Int) ∈ l := by
  unfold setN
  rw [foldl_bit l 0 i h]
  simp
/-- Row i is broken by choice c. -/
def brkS (p : Pg) (c i : Nat) : Bool := !keptB (p.rows.getD i rw0) (c : Int)
theorem broken_nn (p : Pg) (s : Int) : ∀ x ∈ brokenW p s, 0 ≤ x ∧ x < (p.rows.length : Int) := by
  intro x hx
  unfold brokenW at hx
  split at hx
  · obtain ⟨k, rfl, hk, -⟩ := mem_brk.1 hx
    exact ⟨by omega, by omega⟩
  · cases hx
theorem setN_brk {p : Pg} (hv : validB p = true) {v : Nat} (e : p.vars = v) {c : Nat} (hc : c < 2 ^ v) (i : Nat) : (setN (brokenW p c)).testBit i = true ↔ i < p.rows.length ∧ brkS p c i = true := by
  rw [setN_bit (fun x hx => (broken_nn p _ x hx).1), broken_in hv e hc, mem_brk]
  unfold brkS
  constructor
  · rintro ⟨k, hk, hl, hb⟩
    have : i = k := by omega
    subst this
    exact ⟨hl, by simpa using hb⟩
  · rintro ⟨hl, hb⟩
    exact ⟨i, rfl, hl, by simpa using hb⟩
theorem setN_lt {l : List Int} {n : Nat} (h : ∀ r ∈ l, 0 ≤ r ∧ r < (n : Int)) : setN l < 2 ^ n := by
  rw [← setTo_all]; exact setTo_lt h _
theorem getD_set_b (l : List Bool) (i j : Nat) (b : Bool) : (l.set i b).getD j false = if i = j ∧ j < l.length then b else l.getD j false := by
  simp only [List.getD_eq_getElem?_getD, List.getElem?_set]
  by_cases h : i = j
  · subst h
    by_cases h2 : i < l.length
    · simp [h2]
    · have e := List.getElem?_eq_none (Nat.le_of_not_lt h2)
      simp [h2]
  · simp [h]
theorem getD_rep (n s : Nat) : (List.replicate n false).getD s false = false := by
  rw [List.getD_eq_getElem?_getD, List.getElem?_replicate]; split <;> rfl
theorem tab1_spec {p : Pg} (hn : p.rows.length ≤ 12) {s : Nat} : ∀ c, ((tab1 p c).getD s false = true ↔ ∃ k, k < c ∧ setN (brokenW p k) = s)
  | 0 => by rw [tab1, getD_rep]; simp
  | c + 1 => by
    rw [tab1, getD_set_b, tab1_length]
    have hlt : setN (brokenW p c) < 4096 := Nat.lt_of_lt_of_le (setN_lt (broken_nn p c)) (pow_4096 hn)
    by_cases h : setN (brokenW p c) = s
    · rw [if_pos ⟨h, by omega⟩]
      exact ⟨fun _ => ⟨c, by omega, h⟩, fun _ => rfl⟩
    · rw [if_neg (fun hh => h hh.1), tab1_spec hn c]
      constructor
      · rintro ⟨k, hk, e⟩; exact ⟨k, by omega, e⟩
      · rintro ⟨k, hk, e⟩
        refine ⟨k, ?_, e⟩
        rcases Nat.lt_or_ge k c with h1 | h1
        · exact h1
        · have : k = c := by omega
          subst this; exact (h e).elim
theorem clo_ge (b : List Bool) (r : Nat) : ∀ {k s : Nat}, k ≤ s → (clo b r k).getD s false = b.getD s false
  | 0, s, _ => rfl
  | k + 1, s, h => by
    rw [clo, getD_set_b, if_neg (by omega), clo_ge b r (by omega)]
theorem clo_spec (b : List Bool) (r : Nat) : ∀ {k s : Nat}, s < k → k ≤ b.length → (clo b r k).getD s false = (b.getD s false || (s.testBit r && b.getD (s - 2 ^ r) false))
  | 0, s, h, _ => by omega
  | k + 1, s, h, hl => by
    rw [clo, getD_set_b, clo_length]
    by_cases he : k = s
    · subst he
      rw [if_pos ⟨rfl, by omega⟩, clo_ge b r (Nat.le_refl _)]
      cases hb : k.testBit r with
      | false => simp
      | true =>
        have hp := Nat.two_pow_pos r
        have hge : 2 ^ r ≤ k := Nat.ge_two_pow_of_testBit hb
        rw [clo_spec b r (k := k) (s := k - 2 ^ r) (by omega) (by omega), testBit_drop hb]
        simp
    · rw [if_neg (fun hh => he hh.1), clo_spec b r (by omega) (by omega)]
theorem cloR_spec {b : List Bool} {n : Nat} (hb : b.length = 4096) (hn : n ≤ 12) : ∀ (r : Nat), r ≤ n → ∀ {s : Nat}, s < 2 ^ n → ((cloR b n r).getD s false = true ↔ ∃ t, b.getD t false = true ∧ (∀ i, t.testBit i = true → s.testBit i = true) ∧ ∀ i, r ≤ i → s.testBit i = t.testBit i)
  | 0, _, s, hs => by
    constructor
    · intro h; exact ⟨s, h, fun i h => h, fun i _ => rfl⟩
    · rintro ⟨t, ht, -, h2⟩
      have : s = t := Nat.eq_of_testBit_eq fun i => h2 i (by omega)
      subst this; exact ht
  | r + 1, hr, s, hs => by
    have hpn : 2 ^ n ≤ 4096 := pow_4096 hn
    rw [cloR, clo_spec _ r hs (by rw [cloR_length, hb]; exact hpn), Bool.or_eq_true, Bool.and_eq_true, cloR_spec hb hn r (by omega) hs]
    constructor
    · rintro (⟨t, h1, h2, h3⟩ | ⟨hbit, h⟩)
      · exact ⟨t, h1, h2, fun i hi => h3 i (by omega)⟩
      · obtain ⟨t, h1, h2, h3⟩ := (cloR_spec hb hn r (by omega) (s := s - 2 ^ r) (Nat.lt_of_le_of_lt (Nat.sub_le _ _) hs)).1 h
        refine ⟨t, h1, fun i hi => ?_, fun i hi => ?_⟩
        · have := h2 i hi
          rw [testBit_drop hbit] at this
          simp only [Bool.and_eq_true] at this
          exact this.1
        · have := h3 i (by omega)
          rw [testBit_drop hbit] at this
          have hne : i ≠ r := by omega
          simpa [hne] using this
    · rintro ⟨t, h1, h2, h3⟩
      by_cases he : s.testBit r = t.testBit r
      · refine .inl ⟨t, h1, h2, fun i hi => ?_⟩
        rcases Nat.lt_or_ge r i with h | h
        · exact h3 i h
        · have : i = r := by omega
          subst this; exact he
      · have hsr : s.testBit r = true ∧ t.testBit r = false := by
          cases h4 : t.testBit r with
          | true => exact (he (by rw [h4]; exact h2 r h4)).elim
          | false => cases h5 : s.testBit r with
            | true => exact ⟨rfl, rfl⟩
            | false => exact (he (by rw [h4, h5])).elim
        refine .inr ⟨hsr.1, (cloR_spec hb hn r (by omega) (s := s - 2 ^ r) (Nat.lt_of_le_of_lt (Nat.sub_le _ _) hs)).2 ⟨t, h1, fun i hi => ?_, fun i hi => ?_⟩⟩
        · rw [testBit_drop hsr.1, h2 i hi]
          have hne : i ≠ r := by intro e; subst e; rw [hsr.2] at hi; cases hi
          simp [hne]
        · rw [testBit_drop hsr.1]
          by_cases hne : i = r
          · subst hne; simp [hsr.2]
          · rw [h3 i (by omega)]; simp [hne]
/-- Some choice breaks no other rows. -/
theorem tabW_spec {p : Pg} (hv : validB p = true) (hn : p.rows.length ≤ 12) {v : Nat} (e : p.vars = v) {s : Nat} (hs : s < 2 ^ p.rows.length) :
    (tabW p).getD s false = true ↔ ∃ c, c < 2 ^ v ∧ ∀ i, i < p.rows.length → brkS p c i = true → s.testBit i = true := by
  have ev : p.vars.toNat = v := by omega
  unfold tabW
  rw [ev, cloR_spec (tab1_length p _) hn _ (Nat.le_refl _) hs]
  constructor
  · rintro ⟨t, h1, h2, h3⟩
    obtain ⟨c, hc, rfl⟩ := (tab1_spec hn _).1 h1
    exact ⟨c, hc, fun i hi hb => h2 i ((setN_brk hv e hc i).2 ⟨hi, hb⟩)⟩
  · rintro ⟨c, hc, h⟩
    refine ⟨setN (brokenW p c), (tab1_spec hn _).2 ⟨c, hc, rfl⟩, fun i hi => ?_, fun i hi => ?_⟩
    · obtain ⟨h1, h2⟩ := (setN_brk hv e hc i).1 hi
      exact h i h1 h2
    · rw [Nat.testBit_lt_two_pow (Nat.lt_of_lt_of_le hs (Nat.pow_le_pow_right (by omega) hi)), Nat.testBit_lt_two_pow (Nat.lt_of_lt_of_le (setN_lt (broken_nn p c)) (Nat.pow_le_pow_right (by omega) hi))]
/-- A set of rows conflicts: every choice breaks one of them. -/
def confS (p : Pg) (s : Nat) : Bool := !(tabW p).getD (2 ^ p.rows.length - 1 - s) false
theorem compl_bit {n s : Nat} (hs : s < 2 ^ n) (i : Nat) : (2 ^ n - 1 - s).testBit i = (decide (i < n) && !s.testBit i) := by
  rw [show 2 ^ n - 1 - s = 2 ^ n - (s + 1) by omega]
  exact Nat.testBit_two_pow_sub_succ hs i
theorem confS_spec {p : Pg} (hv : validB p = true) (hn : p.rows.length ≤ 12) {v : Nat} (e : p.vars = v) {s : Nat} (hs : s < 2 ^ p.rows.length) :
    confS p s = true ↔ ∀ c, c < 2 ^ v → ∃ i, i < p.rows.length ∧ brkS p c i = true ∧ s.testBit i = true := by
  have hp := Nat.two_pow_pos p.rows.length
  unfold confS
  rw [Bool.not_eq_true', Bool.eq_false_iff, ne_eq, tabW_spec hv hn e (by omega)]
  constructor
  · intro h c hc
    refine Classical.byContradiction fun h2 => h ⟨c, hc, fun i hi hb => ?_⟩
    rw [compl_bit hs]
    have : s.testBit i = false := by
      cases hsb : s.testBit i with
      | false => rfl
      | true => exact (h2 ⟨i, hi, hb, hsb⟩).elim
    simp [hi, this]
  · rintro h ⟨c, hc, h2⟩
    obtain ⟨i, hi, hb, hsb⟩ := h c hc
    have := h2 i hi hb
    rw [compl_bit hs, hsb] at this
    simp at this
end Go.Proofs.YtgmgifmfhpoglaaDoor

namespace Go.Proofs.YtgmgifmfhpoglaaDoor
open Go.RowKit
/-- A set without a row. -/
def clrN (s r : Nat) : Nat := if s.testBit r then s - 2 ^ r else s
theorem testBit_clr (s r i : Nat) : (clrN s r).testBit i = (s.testBit i && !decide (i = r)) := by
  unfold clrN
  split
  · rename_i h; exact testBit_drop h i
  · rename_i h
    by_cases e : i = r
    · subst e; simp [h]
    · simp [e]
theorem nb_spec {s r : Nat} (hs : s < 4096) (hr : r < 12) : bitsV .and .i64 (shrW .i64 (s : Nat) (r : Nat)) 1 = (if s.testBit r then 1 else 0) ∧ bitsV .andNot .i64 (s : Nat) (shlW .i64 1 (r : Nat)) = ((clrN s r : Nat) : Int) := by
  constructor
  · have hd : s / 2 ^ r ≤ s := Nat.div_le_self _ _
    rw [shrN (by omega), show (1 : Int) = ((1 : Nat) : Int) from rfl, andN (by omega) (by omega), Nat.and_one_is_mod, Nat.testBit_eq_decide_div_mod_eq]
    rcases Nat.mod_two_eq_zero_or_one (s / 2 ^ r) with h | h <;> simp [h]
  · have hp : 2 ^ r < 65536 := Nat.lt_of_lt_of_le (Nat.pow_lt_pow_right (by omega) hr) (by decide)
    obtain ⟨K, h1, h2, h3⟩ := andNotN (a := s) (b := 2 ^ r) (by omega) hp
    rw [shl1 (by omega), h1]
    have : K = clrN s r := Nat.eq_of_testBit_eq fun i => by
      rw [h3, testBit_clr, Nat.testBit_two_pow]
      by_cases e : r = i
      · subst e; simp
      · have e2 : i ≠ r := fun h => e h.symm
        simp [e, e2]
    rw [this]
theorem compl_and {n s : Nat} (hn : n ≤ 12) (hs : s < 2 ^ n) : bitsV .andNot .i64 ((2 ^ n - 1 : Nat) : Int) (s : Nat) = ((2 ^ n - 1 - s : Nat) : Int) := by
  have hp := pow_4096 hn
  obtain ⟨K, h1, h2, h3⟩ := andNotN (a := 2 ^ n - 1) (b := s) (by omega) (by omega)
  rw [h1]
  have : K = 2 ^ n - 1 - s := Nat.eq_of_testBit_eq fun i => by
    rw [h3, compl_bit hs, Nat.testBit_two_pow_sub_one]
  rw [this]
theorem clo_step {b : List Bool} {r s : Nat} {x : Bool} (h : x = ((clo b r s).getD s false || (s.testBit r && (clo b r s).getD (clrN s r) false))) : (clo b r s).set s x = clo b r (s + 1) := by
  rw [clo, h]
  unfold clrN
  cases hb : s.testBit r <;> simp
end Go.Proofs.YtgmgifmfhpoglaaDoor

namespace Go.Proofs.YtgmgifmfhpoglaaDoor
open Go.RowKit
set_option linter.unusedVariables false
set_option linter.unusedSimpArgs false
theorem smallB_spec {p : Pg} (h : smallB p = true) : p.rows.length ≤ 12 ∧ validB p = true := by
  unfold smallB at h
  simp only [Bool.and_eq_true, decide_eq_true_eq] at h
  exact ⟨by omega, h.2⟩
theorem u16_small {s : Nat} (h : s < 4096) : IntKind.u16.wrap (s : Int) = s := by
  simp only [IntKind.wrap, IntKind.signed, IntKind.bits]
  simp
  omega
theorem shl_pow {n : Nat} (h : n ≤ 12) : shlW .i64 1 (n : Nat) = ((2 ^ n : Nat) : Int) := by
  rw [shl1 (by omega)]
/-- The sets below k with a property, in order. -/
def setsT (q : Nat → Bool) : Nat → List (Fin 4096)
  | 0 => []
  | k + 1 => if h : k < 4096 then (if q k then setsT q k ++ [⟨k, h⟩] else setsT q k) else setsT q k
theorem setsT_t {q : Nat → Bool} {k : Nat} (hk : k < 4096) (h : q k = true) : setsT q (k + 1) = setsT q k ++ [⟨k, hk⟩] := by simp only [setsT, h, if_true, hk, dif_pos]
theorem setsT_f {q : Nat → Bool} {k : Nat} (h : q k = false) : setsT q (k + 1) = setsT q k := by simp only [setsT, h]; split <;> rfl
theorem setsT_length (q : Nat → Bool) : ∀ k, (setsT q k).length ≤ k
  | 0 => Nat.le_refl _
  | k + 1 => by
    have := setsT_length q k
    simp only [setsT]
    split
    · split
      · simp; omega
      · omega
    · omega
theorem setsT_mem {q : Nat → Bool} {x : Fin 4096} : ∀ {k : Nat}, x ∈ setsT q k ↔ x.val < k ∧ q x.val = true
  | 0 => by simp [setsT]
  | k + 1 => by
    have hx := x.isLt
    by_cases hk : k < 4096
    · cases h : q k with
      | true =>
        rw [setsT_t hk h, List.mem_append, setsT_mem, List.mem_singleton]
        constructor
        · rintro (⟨hs, hq⟩ | e)
          · exact ⟨by omega, hq⟩
          · subst e; exact ⟨by simp, h⟩
        · rintro ⟨hs, hq⟩
          rcases Nat.lt_or_ge x.val k with h1 | h1
          · exact .inl ⟨h1, hq⟩
          · exact .inr (Fin.ext (by simp only; omega))
      | false =>
        rw [setsT_f h, setsT_mem]
        constructor
        · rintro ⟨hs, hq⟩
          exact ⟨by omega, hq⟩
        · rintro ⟨hs, hq⟩
          rcases Nat.lt_or_ge x.val k with h1 | h1
          · exact ⟨h1, hq⟩
          · have : x.val = k := by omega
            rw [this, h] at hq; cases hq
    · simp only [setsT, hk, dif_neg, not_false_eq_true]
      rw [setsT_mem]
      constructor
      · rintro ⟨hs, hq⟩; exact ⟨by omega, hq⟩
      · rintro ⟨hs, hq⟩; exact ⟨by omega, hq⟩
def evS (s : Fin 4096) : Value := .int .i64 ((s.val : Nat) : Int)
def enS (s : Fin 4096) : V := .int .i64 ((s.val : Nat) : Int)
theorem enok_S : EnOK evS enS := ⟨fun x y h => by unfold evS at h; injection h with _ h; exact Fin.ext (by omega), fun x w O ι ρ nx c y h => by unfold enS at h; cases h; rfl, fun x w O ι ρ nx c => .int ..⟩
theorem enS_uptoL (n : Nat) : ∀ l : List (Fin 4096), V.uptoL n (l.map enS) = true
  | [] => rfl
  | x :: l => by simp [V.uptoL, V.upto, enS, enS_uptoL n l]
/-- One step of the search for the least set. -/
def lstB (st : Nat × Bool) (x : Nat) : Bool := !st.2 || (decide ((popN x : Int) < (popN st.1 : Int)) || (decide ((popN x : Int) = (popN st.1 : Int)) && decide ((rvN st.1 : Int) < (rvN x : Int))))
def lstS (st : Nat × Bool) (x : Fin 4096) : Nat × Bool := if lstB st x.val then (x.val, true) else st
def lstW (xs : List (Fin 4096)) : Nat × Bool := xs.foldl lstS (0, false)
theorem lstW_snoc (xs : List (Fin 4096)) (x : Fin 4096) : lstW (xs ++ [x]) = lstS (lstW xs) x := by simp [lstW]
theorem lstS_t {st : Nat × Bool} {x : Fin 4096} (h : lstB st x.val = true) : lstS st x = (x.val, true) := by simp [lstS, h]
theorem lstS_f {st : Nat × Bool} {x : Fin 4096} (h : lstB st x.val = false) : lstS st x = st := by simp [lstS, h]
theorem lstB_t {st : Nat × Bool} {x : Nat} (h : (st.2 = false ∨ (popN x : Int) < (popN st.1 : Int)) ∨ (popN x : Int) = (popN st.1 : Int) ∧ (rvN st.1 : Int) < (rvN x : Int)) : lstB st x = true := by
  unfold lstB
  rcases h with (h | h) | ⟨h1, h2⟩
  · rw [h]; rfl
  · rw [decide_eq_true h]; simp
  · rw [decide_eq_true h1, decide_eq_true h2]; simp
theorem lstB_f {st : Nat × Bool} {x : Nat} (h : (st.2 = true ∧ ¬ (popN x : Int) < (popN st.1 : Int)) ∧ (¬ (popN x : Int) = (popN st.1 : Int) ∨ ¬ (rvN st.1 : Int) < (rvN x : Int))) : lstB st x = false := by
  unfold lstB
  obtain ⟨⟨h1, h2⟩, h3⟩ := h
  rw [h1, decide_eq_false h2]
  rcases h3 with h3 | h3
  · rw [decide_eq_false h3]; rfl
  · rw [decide_eq_false h3]; simp
theorem lstW_lt (xs : List (Fin 4096)) : (lstW xs).1 < 4096 := by
  suffices ∀ (xs : List (Fin 4096)) (st : Nat × Bool), st.1 < 4096 → (xs.foldl lstS st).1 < 4096 by exact this xs _ (by decide)
  intro xs
  induction xs with
  | nil => exact fun st h => h
  | cons x xs ih =>
    intro st h1
    rw [List.foldl_cons]
    refine ih _ ?_
    unfold lstS
    split
    · exact x.isLt
    · exact h1
def coreL (p : Pg) : List Int := rowsN (lstW (setsT (confS p) (2 ^ p.rows.length))).1
def repS (p : Pg) (s : Nat) : Bool := (tabW p).getD s false
def repL (p : Pg) : List Int := rowsN (lstW (setsT (repS p) (2 ^ p.rows.length))).1
/-- Rows left out of a conflict, one after the other. -/
def shrG (p : Pg) (l : List Int) (s : Nat) : Nat → Nat
  | 0 => s
  | k + 1 => if confS p (clrN (shrG p l s k) (l.getD k 0).toNat) then clrN (shrG p l s k) (l.getD k 0).toNat else shrG p l s k
theorem clrN_le (s r : Nat) : clrN s r ≤ s := by
  unfold clrN; split
  · exact Nat.sub_le _ _
  · exact Nat.le_refl _
theorem shrG_le (p : Pg) (l : List Int) (s : Nat) : ∀ k, shrG p l s k ≤ s
  | 0 => Nat.le_refl _
  | k + 1 => by
    have := shrG_le p l s k
    have h2 := clrN_le (shrG p l s k) (l.getD k 0).toNat
    simp only [shrG]; split <;> omega
theorem shrG_t {p : Pg} {l : List Int} {s k : Nat} (h : confS p (clrN (shrG p l s k) (l.getD k 0).toNat) = true) : shrG p l s (k + 1) = clrN (shrG p l s k) (l.getD k 0).toNat := by simp only [shrG, h, if_true]
theorem shrG_f {p : Pg} {l : List Int} {s k : Nat} (h : confS p (clrN (shrG p l s k) (l.getD k 0).toNat) = false) : shrG p l s (k + 1) = shrG p l s k := by simp only [shrG, h]; rfl
theorem cellsB_rep (n : Nat) : cellsB (List.replicate n false) = List.replicate n (V.bool false) := by simp [cellsB]
theorem brk_len (p : Pg) (s : Int) : (brokenW p s).length ≤ p.rows.length := by
  unfold brokenW; split
  · exact brkTo_length p s _
  · simp
theorem tabW_length (p : Pg) : (tabW p).length = 4096 := by unfold tabW; rw [cloR_length, tab1_length]
theorem vars_nat {p : Pg} {v : Nat} (e : p.vars = v) : p.vars.toNat = v := by omega
/-- What toBits says. -/
theorem tbG_spec {n : Nat} (hn : n ≤ 12) {l : List Int} : ∀ {k : Nat} {s : Int × Int}, k ≤ l.length → tbG n l k = some s → s.1 = ((setTo l k : Nat) : Int) ∧ (∀ i, i < k → 0 ≤ l.getD i 0 ∧ l.getD i 0 < n ∧ l.getD i 0 ≤ s.2) ∧ (∀ i j, i < j → j < k → l.getD i 0 < l.getD j 0) ∧ -1 ≤ s.2
  | 0, s, _, h => by
    simp only [tbG, Option.some.injEq] at h
    subst h
    exact ⟨rfl, fun i hi => by omega, fun i j hi hj => by omega, by omega⟩
  | k + 1, s, hk, h => by
    simp only [tbG] at h
    obtain ⟨t, ht, h⟩ := Option.bind_eq_some_iff.1 h
    obtain ⟨h1, h2, h3, h4⟩ := tbG_spec hn (by omega) ht
    split at h
    · cases h
    · rename_i hc
      simp only [not_or, Int.not_le] at hc
      simp only [Option.some.injEq] at h
      subst h
      have hlt : setTo l k < 4096 := by
        have : ∀ r ∈ l.take k, 0 ≤ r ∧ r < (n : Int) := fun r hr => by
          obtain ⟨i, hi, rfl⟩ := List.getElem_of_mem hr
          have hi2 : i < k := by simp at hi; omega
          have := h2 i hi2
          simp only [List.getElem_take]
          simp [List.getD, show i < l.length by omega] at this
          omega
        exact Nat.lt_of_lt_of_le (setN_lt this) (pow_4096 hn)
      refine ⟨?_, fun i hi => ?_, fun i j hi hj => ?_, by simp only; omega⟩
      · simp only
        rw [h1, or_step hlt (by omega) (by omega), setTo_succ (by omega)]
      · rcases Nat.lt_or_ge i k with h5 | h5
        · have := h2 i h5
          exact ⟨this.1, this.2.1, by simp only; omega⟩
        · have : i = k := by omega
          subst this
          exact ⟨by omega, hc.2, Int.le_refl _⟩
      · rcases Nat.lt_or_ge j k with h5 | h5
        · exact h3 i j hi h5
        · have : j = k := by omega
          subst this
          have := h2 i hi
          omega
theorem mem_rowsN {s : Nat} {x : Int} : x ∈ rowsN s ↔ ∃ i : Nat, x = i ∧ i < 12 ∧ s.testBit i = true := by
  unfold rowsN
  rw [List.mem_map]
  constructor
  · rintro ⟨i, hi, rfl⟩
    rw [List.mem_filter, List.mem_range] at hi
    exact ⟨i, rfl, hi.1, hi.2⟩
  · rintro ⟨i, rfl, h1, h2⟩
    exact ⟨i, by rw [List.mem_filter, List.mem_range]; exact ⟨h1, h2⟩, rfl⟩
theorem rowsN_pair (s : Nat) : (rowsN s).Pairwise (· < ·) := by
  unfold rowsN
  rw [List.pairwise_map]
  refine List.Pairwise.filter _ ?_
  refine List.Pairwise.imp (R := (· < ·)) (fun h => by omega) List.pairwise_lt_range
theorem pair_ext : ∀ {a b : List Int}, a.Pairwise (· < ·) → b.Pairwise (· < ·) → (∀ x, x ∈ a ↔ x ∈ b) → a = b
  | [], [], _, _, _ => rfl
  | [], y :: b, _, _, h => by have := (h y).2 (by simp); cases this
  | x :: a, [], _, _, h => by have := (h x).1 (by simp); cases this
  | x :: a, y :: b, ha, hb, h => by
    rw [List.pairwise_cons] at ha hb
    have e : x = y := by
      have h1 := (h x).1 (by simp)
      have h2 := (h y).2 (by simp)
      rcases List.mem_cons.1 h1 with h1 | h1
      · exact h1
      · rcases List.mem_cons.1 h2 with h2 | h2
        · exact h2.symm
        · have := ha.1 y h2
          have := hb.1 x h1
          omega
    subst e
    rw [pair_ext ha.2 hb.2]
    intro z
    have hz := h z
    rw [List.mem_cons, List.mem_cons] at hz
    constructor
    · intro h1
      rcases hz.1 (.inr h1) with h2 | h2
      · subst h2; have := ha.1 z h1; omega
      · exact h2
    · intro h1
      rcases hz.2 (.inr h1) with h2 | h2
      · subst h2; have := hb.1 z h1; omega
      · exact h2
theorem rowsN_setN {l : List Int} {n : Nat} (hn : n ≤ 12) (h : ∀ x ∈ l, 0 ≤ x ∧ x < (n : Int)) (hp : l.Pairwise (· < ·)) : rowsN (setN l) = l := by
  refine pair_ext (rowsN_pair _) hp fun x => ?_
  rw [mem_rowsN]
  constructor
  · rintro ⟨i, rfl, hi, hb⟩
    exact (setN_bit (fun x hx => (h x hx).1) i).1 hb
  · intro hx
    obtain ⟨h1, h2⟩ := h x hx
    obtain ⟨i, rfl⟩ := Int.eq_ofNat_of_zero_le h1
    exact ⟨i, rfl, by omega, (setN_bit (fun x hx => (h x hx).1) i).2 hx⟩
theorem setN_rowsN {s : Nat} (h : s < 4096) : setN (rowsN s) = s := by
  refine Nat.eq_of_testBit_eq fun i => ?_
  have h1 := setN_bit (l := rowsN s) (fun x hx => by obtain ⟨i, rfl, _⟩ := mem_rowsN.1 hx; omega) i
  rw [mem_rowsN] at h1
  cases hb : s.testBit i with
  | true =>
    have : i < 12 := bit_lt (n := 12) h hb
    exact h1.2 ⟨i, rfl, this, hb⟩
  | false =>
    cases hb2 : (setN (rowsN s)).testBit i with
    | false => rfl
    | true =>
      obtain ⟨j, e, hj, hb3⟩ := h1.1 hb2
      have : i = j := by omega
      subst this
      rw [hb] at hb3; cases hb3
theorem tbW_some {n : Nat} (hn : n ≤ 12) {l : List Int} {o : Int} (h : tbW n l = some o) : ∃ s : Nat, o = s ∧ s < 2 ^ n ∧ l = rowsN s := by
  unfold tbW at h
  obtain ⟨t, ht, rfl⟩ := Option.map_eq_some_iff.1 h
  obtain ⟨h1, h2, h3, -⟩ := tbG_spec hn (Nat.le_refl _) ht
  rw [setTo_all] at h1
  have hm : ∀ x ∈ l, 0 ≤ x ∧ x < (n : Int) := fun x hx => by
    obtain ⟨i, hi, rfl⟩ := mem_getD.1 hx
    have := h2 i hi
    omega
  have hp : l.Pairwise (· < ·) := by
    rw [List.pairwise_iff_getElem]
    intro i j hi hj hij
    have := h3 i j hij hj
    simpa [List.getD, hi, hj] using this
  exact ⟨setN l, h1, setN_lt hm, (rowsN_setN hn hm hp).symm⟩
theorem tbW_rows {n : Nat} (hn : n ≤ 12) {s : Nat} (hs : s < 2 ^ n) : tbW n (rowsN s) = some (s : Int) := by
  have hs2 : s < 4096 := Nat.lt_of_lt_of_le hs (pow_4096 hn)
  have hm : ∀ x ∈ rowsN s, 0 ≤ x ∧ x < (n : Int) := fun x hx => by
    obtain ⟨i, rfl, -, hb⟩ := mem_rowsN.1 hx
    have := bit_lt hs hb
    omega
  have hg : ∀ k, k ≤ (rowsN s).length → ∃ o t, tbG n (rowsN s) k = some (o, t) ∧ ∀ j, k ≤ j → j < (rowsN s).length → t < (rowsN s).getD j 0 := by
    intro k
    induction k with
    | zero => exact fun _ => ⟨0, -1, rfl, fun j _ hj => by have := hm _ (getD_mem (d := 0) hj); omega⟩
    | succ k ih =>
      intro hk
      obtain ⟨o, t, h1, h2⟩ := ih (by omega)
      have hkm := hm _ (getD_mem (d := 0) (show k < (rowsN s).length by omega))
      refine ⟨_, _, tbG_yes h1 (h2 k (Nat.le_refl _) (by omega)) hkm.2, fun j hj hl => ?_⟩
      have := (List.pairwise_iff_getElem.1 (rowsN_pair s)) k j (by omega) hl (by omega)
      simpa [List.getD, hl, show k < (rowsN s).length by omega] using this
  obtain ⟨o, t, h, -⟩ := hg _ (Nat.le_refl _)
  have ht : tbW n (rowsN s) = some o := by simp [tbW, h]
  obtain ⟨s2, e, h2, h3⟩ := tbW_some hn ht
  have : s2 = s := by
    rw [← setN_rowsN (Nat.lt_of_lt_of_le h2 (pow_4096 hn)), ← h3, setN_rowsN hs2]
  rw [ht, e, this]
end Go.Proofs.YtgmgifmfhpoglaaDoor

namespace Go.Proofs.YtgmgifmfhpoglaaDoor
open Go.RowKit
set_option linter.unusedVariables false
set_option linter.unusedSimpArgs false
set_option maxRecDepth 100000
attribute [local go_sem] Nat.zero_add Nat.add_zero Nat.mul_one eq_self ne_eq not_true_eq_false not_false_eq_true decide_true decide_false decide_not Bool.false_eq_true List.filter_cons List.filter_nil true_and and_true beq_false beq_true Bool.not_true Bool.not_false Bool.and_true Bool.true_and Option.getD_some Option.getD_none imp_self implies_true Int.toNat_natCast List.cons_append List.nil_append List.map_cons List.map_nil List.length_cons List.length_nil List.getD_cons_zero List.getD_cons_succ List.drop_zero List.drop_succ_cons List.take_succ_cons List.take_zero
attribute [local go_sem] isE isO stpO notIn St.bare evO evDO isEff stp St.get St.slot St.put List.lookup un unL ofVal gof nth pickV pkB_false pkB_true binV unV loadV idxV fldV partV buildV fillV lenV sliV appV appR rowsV winV V.parts V.okp V.sc Mem.look_cons Mem.look_nil V.cl V.clL AObj.clo fzAll exps St.fz Mem.fz V.fz V.fzL AObj.fz Option.isSome_some Option.isSome_none Bool.or_true Bool.true_or Bool.or_false Bool.false_or false_and and_false false_or or_false arT_102 arT_103 arT_22 arT_23 arT_26 arT_27 arT_31 arT_38 arT_45 arT_55 arT_85 arT_86 arT_9 boolT_100 boolT_23 boolT_3 boolT_32 boolT_4 boolT_98 flatT_100 flatT_23 flatT_3 flatT_32 flatT_4 flatT_98 intT_100 intT_3 intT_5 intT_81 intT_83 intT_98 lay_22 lay_23 lay_25 lay_27 lay_3 lay_37 lay_4 lay_45 lay_47 lay_5 lay_54 lay_61 lay_66 lay_82 lay_88 okF_10 okF_11 okF_12 okF_13 okF_14 okF_15 okF_16 okF_17 okF_18 okF_19 okF_20 okF_21 okF_22 okF_23 okF_24 okF_25 okF_26 okF_27 okF_28 okF_29 okF_3 okF_30 okF_31 okF_32 okF_33 okF_34 okF_35 okF_36 okF_37 okF_38 okF_39 okF_4 okF_40 okF_41 okF_42 okF_43 okF_44 okF_45 okF_46 okF_47 okF_48 okF_49 okF_5 okF_50 okF_51 okF_52 okF_53 okF_54 okF_55 okF_56 okF_57 okF_58 okF_59 okF_6 okF_60 okF_61 okF_62 okF_63 okF_64 okF_65 okF_66 okF_67 okF_68 okF_69 okF_7 okF_70 okF_71 okF_72 okF_73 okF_74 okF_75 okF_76 okF_77 okF_78 okF_79 okF_8 okF_80 okF_81 okF_82 okF_83 okF_84 okF_85 okF_86 okF_87 okF_88 okF_89 okF_9 plT_25 plT_47 plT_54 plT_93 plT_96 slT_102 slT_103 slT_22 slT_23 slT_26 slT_27 slT_31 slT_38 slT_45 slT_55 slT_85 slT_86 slT_94 stT_25_0 stT_25_1 stT_25_2 stT_47_0 stT_47_2 stT_47_3 stT_54_4 stT_54_5 stT_96_1 stT_96_2 strT_9 zeroT_23 zeroT_25 zeroT_3 zeroT_37 zeroT_4 zeroT_45 zeroT_47 zeroT_54 zeroT_55 zeroT_66 zeroT_82 zeroT_85 zeroT_86 zeroT_93 zeroT_96
attribute [local go_sem] List.getElem?_cons_zero List.getElem?_cons_succ List.zip_cons_cons List.zip_nil_left List.zip_nil_right Bool.false_and Bool.and_false List.length_append List.length_set List.length_replicate List.all_cons List.all_nil encI_length encI_getD encR_length encR_getD encRw encPg spl shp AObj.shp rowM isSt isRpS isRd csh AObj.csh forall_const imp_self
attribute [local simp] encI_length encR_length cellsI_length
attribute [local simp] cellsB_length tab1_length cloR_length clo_length tabW_length
section
attribute [local go_sem] cellsB_length cellsB_getD cellsB_sc cellsB_cl cellsB_dropD cellsB_spl Bool.and_eq_true
set_option maxHeartbeats 4000000 in
theorem k40 (p : Pg) (hr : p.rows.length ≤ maxLen) (hg : p.gain.length ≤ maxLen) (hc : ∀ r ∈ p.rows, r.coef.length ≤ maxLen) (hv : validB p = true) (hn : p.rows.length ≤ 12) : CallsA Tryd.prog 40 [.agg (encPg p)] (.ep (cellsB (tabW p))) := by
  obtain ⟨v, hv1, hv2, hv3, hv4⟩ := vars_pow hv
  have hv5 : shlW .i64 1 p.vars = ((2 ^ v : Nat) : Int) := by rw [hv1]; exact hv3
  have hn5 : shlW .i64 1 (p.rows.length : Nat) = ((2 ^ p.rows.length : Nat) : Int) := shl_pow hn
  have hpn := pow_4096 hn
  have hpv : 2 ^ v ≤ 4096 := pow_4096 (by omega)
  have htl := tab1_length p
  have hq := And.intro hv5 (And.intro hn5 (And.intro htl (And.intro clo_length (cloR_length))))
  refine callsA_of_tr Tryd.func40 rfl (Nat.le_of_ble_eq_true rfl) ?_
  simp only [Tryd.results40, envOf, Nat.reduceAdd]
  refine tr_seq fun K1 hK1 => ?_
  refine tr_region [1] rfl rfl fun K hK => ?_
  iterate 2 refine evR_p ?_
  refine evR_e hK ?_; clear hK K
  refine hK1 _ ?_
  refine tr_seq fun K2 hK2 => ?_
  refine tr_region [1, 3] rfl rfl fun K hK => ?_
  refine evR_p ?_
  refine evR_e hK ?_; clear hK K
  refine hK2 _ ?_
  refine tr_seq fun K3 hK3 => ?_
  refine tr_seq fun K4 hK4 => ?_
  refine tr_region [1, 3, 12, 13] rfl rfl fun K hK => ?_
  iterate 4 refine evR_p ?_
  refine evR_e hK ?_; clear hK K
  refine hK4 _ ?_
  refine tr_block ?_
  -- loop 1: live [1, 3, 12, 13]
  refine tr_loopW (fun m σ => ∃ i : Nat, i + m = 2 ^ v ∧ σ = ⟨[(1, .ptr 0 0), (3, .ptr 1 0), (12, .int .i64 ((2 ^ v : Nat) : Int)), (13, .int .i64 (i : Nat))], [(1, .cells (cellsB (tab1 p i))), (0, .cells (encPg p))], 2⟩) (2 ^ v) ?_ ?_
  · exact ⟨_, Wk.refl _, 0, by omega, by rw [tab1, cellsB_rep]; rfl⟩
  · rintro m σ ⟨i, hi, rfl⟩ KL1 hKL1
    refine tr_seq fun K5 hK5 => ?_
    refine tr_region [1, 3, 12, 13, 14] rfl rfl fun K hK => ?_
    refine evR_p ?_
    refine evR_e hK ?_; clear hK K
    refine hK5 _ ?_
    refine tr_seq fun K6 hK6 => ?_
    refine tr_condB (fun ht1 => ?_) (fun ht1 => ?_)
    · skip
      (first | (exfalso; omega) | skip)
      all_goals
        have hil : i < 2 ^ v := by omega
        have hbn := broken_nn p (i : Nat)
        have hbl := brk_len p (i : Nat)
        have hst := setTo_lt hbn
        replace hq := And.intro hq (hil)
        refine tr_skip ?_
        (try simp only [thenE, inBlkE])
        refine hK6 _ ?_
        refine tr_seq fun K7 hK7 => ?_
        refine tr_block ?_
        refine tr_seq fun K8 hK8 => ?_
        refine tr_region [1, 3, 4, 12, 13] rfl rfl fun K hK => ?_
        iterate 2 refine evR_p ?_
        refine evR_e hK ?_; clear hK K
        refine hK8 _ ?_
        refine tr_seq fun K9 hK9 => ?_
        refine tr_region [1, 3, 4, 5, 12, 13] rfl rfl fun K hK => ?_
        refine evR_p ?_
        refine evR_e hK ?_; clear hK K
        refine hK9 _ ?_
        refine tr_seq fun K10 hK10 => ?_
        refine tr_seq fun K11 hK11 => ?_
        refine tr_region [1, 3, 5, 12, 13, 18, 19, 20] rfl rfl fun K hK => ?_
        iterate 2 refine evR_p ?_
        refine evR_c (hc := (c26 p hr hg hc (i : Nat))) (k := ?_)
        iterate 2 refine evR_p ?_
        refine evR_e hK ?_; clear hK K
        refine hK11 _ ?_
        refine tr_block ?_
        -- loop 2: live [1, 3, 5, 12, 13, 18, 19, 20]
        refine tr_loopW (fun m σ => ∃ k : Nat, k + m = (brokenW p i).length ∧ σ = ⟨[(1, .ptr 0 0), (3, .ptr 1 0), (5, .int .i64 (setTo (brokenW p i) k : Nat)), (12, .int .i64 ((2 ^ v : Nat) : Int)), (13, .int .i64 (i : Nat)), (18, .sl 1 (encI (brokenW p i))), (19, .int .i64 (brokenW p i).length), (20, .int .i64 (k : Nat))], [(1, .cells (cellsB (tab1 p i))), (0, .cells (encPg p))], 2⟩) ((brokenW p i).length) ?_ ?_
        · exact ⟨_, Wk.refl _, 0, by omega, rfl⟩
        · rintro m2 σ ⟨k, hk, rfl⟩ KL2 hKL2
          refine tr_seq fun K12 hK12 => ?_
          refine tr_region [1, 3, 5, 12, 13, 18, 19, 20, 21] rfl rfl fun K hK => ?_
          refine evR_p ?_
          refine evR_e hK ?_; clear hK K
          refine hK12 _ ?_
          refine tr_seq fun K13 hK13 => ?_
          refine tr_condB (fun ht2 => ?_) (fun ht2 => ?_)
          · skip
            (first | (exfalso; omega) | skip)
            all_goals
              have hkl : k < (brokenW p i).length := by omega
              have hm := hbn _ (getD_mem (d := 0) hkl)
              have hor := or_step (Nat.lt_of_lt_of_le (hst k) hpn) hm.1 (by omega)
              replace hq := And.intro hq (And.intro hkl (hor))
              refine tr_skip ?_
              (try simp only [thenE, inBlkE])
              refine hK13 _ ?_
              refine tr_seq fun K14 hK14 => ?_
              refine tr_block ?_
              refine tr_seq fun K15 hK15 => ?_
              refine tr_region [1, 3, 5, 7, 12, 13, 18, 19, 20] rfl rfl fun K hK => ?_
              iterate 3 refine evR_p ?_
              refine evR_e hK ?_; clear hK K
              refine hK15 _ ?_
              refine tr_region [1, 3, 5, 12, 13, 18, 19, 20] rfl rfl fun K hK => ?_
              iterate 5 refine evR_p ?_
              refine evR_e hK ?_; clear hK K
              refine hK14 _ ?_
              refine tr_region [1, 3, 5, 12, 13, 18, 19, 20] rfl rfl fun K hK => ?_
              iterate 2 refine evR_p ?_
              refine evR_e hK ?_; clear hK K
              refine hKL2 _ ?_
              exact ⟨m2 - 1, _, by omega, Wk.refl _, k + 1, by omega, by rw [w64 (x := (k : Int) + 1) (by omega), setTo_succ hkl]; rfl⟩
          · skip
            (first | (exfalso; omega) | skip)
            all_goals
              have hkl : k = (brokenW p i).length := by omega
              subst hkl
              rw [setTo_all]
              have hs4 : setN (brokenW p i) < 4096 := Nat.lt_of_lt_of_le (setN_lt hbn) hpn
              refine tr_exit ?_
              simp only [thenE, inBlkE, Nat.reduceEqDiff, ↓reduceIte]
              refine hK10 _ ?_
              refine tr_region [1, 3, 12, 13] rfl rfl fun K hK => ?_
              iterate 3 refine evR_p ?_
              refine evR_e hK ?_; clear hK K
              refine hK7 _ ?_
              refine tr_region [1, 3, 12, 13] rfl rfl fun K hK => ?_
              iterate 2 refine evR_p ?_
              refine evR_e hK ?_; clear hK K
              refine hKL1 _ ?_
              exact ⟨m - 1, _, by omega, Wk.refl _, i + 1, by omega, by rw [w64 (x := (i : Int) + 1) (by omega)]; rfl⟩
    · skip
      (first | (exfalso; omega) | skip)
      all_goals
        have hil : i = 2 ^ v := by omega
        subst hil
        refine tr_exit ?_
        simp only [thenE, inBlkE, Nat.reduceEqDiff, ↓reduceIte]
        refine hK3 _ ?_
        refine tr_seq fun K16 hK16 => ?_
        refine tr_seq fun K17 hK17 => ?_
        refine tr_region [1, 3, 34, 35] rfl rfl fun K hK => ?_
        iterate 4 refine evR_p ?_
        refine evR_e hK ?_; clear hK K
        refine hK17 _ ?_
        refine tr_block ?_
        -- loop 3: live [1, 3, 34, 35]
        refine tr_loopW (fun m σ => ∃ r : Nat, r + m = p.rows.length ∧ σ = ⟨[(1, .ptr 0 0), (3, .ptr 1 0), (34, .int .i64 (p.rows.length : Nat)), (35, .int .i64 (r : Nat))], [(1, .cells (cellsB (cloR (tab1 p (2 ^ v)) p.rows.length r))), (0, .cells (encPg p))], 2⟩) (p.rows.length) ?_ ?_
        · exact ⟨_, Wk.refl _, 0, by omega, rfl⟩
        · rintro m3 σ ⟨r, hr2, rfl⟩ KL3 hKL3
          refine tr_seq fun K18 hK18 => ?_
          refine tr_region [1, 3, 34, 35, 36] rfl rfl fun K hK => ?_
          refine evR_p ?_
          refine evR_e hK ?_; clear hK K
          refine hK18 _ ?_
          refine tr_seq fun K19 hK19 => ?_
          refine tr_condB (fun ht3 => ?_) (fun ht3 => ?_)
          · skip
            (first | (exfalso; omega) | skip)
            all_goals
              have hrl : r < p.rows.length := by omega
              replace hq := And.intro hq (hrl)
              refine tr_skip ?_
              (try simp only [thenE, inBlkE])
              refine hK19 _ ?_
              refine tr_seq fun K20 hK20 => ?_
              refine tr_block ?_
              refine tr_seq fun K21 hK21 => ?_
              refine tr_region [1, 3, 8, 34, 35] rfl rfl fun K hK => ?_
              iterate 2 refine evR_p ?_
              refine evR_e hK ?_; clear hK K
              refine hK21 _ ?_
              refine tr_seq fun K22 hK22 => ?_
              refine tr_region [1, 3, 8, 34, 35, 41, 42] rfl rfl fun K hK => ?_
              iterate 5 refine evR_p ?_
              refine evR_e hK ?_; clear hK K
              refine hK22 _ ?_
              refine tr_block ?_
              -- loop 4: live [1, 3, 8, 34, 35, 41, 42]
              refine tr_loopW (fun m σ => ∃ s : Nat, s + m = 2 ^ p.rows.length ∧ σ = ⟨[(1, .ptr 0 0), (3, .ptr 1 0), (8, .int .i64 (r : Nat)), (34, .int .i64 (p.rows.length : Nat)), (35, .int .i64 (r : Nat)), (41, .int .i64 ((2 ^ p.rows.length : Nat) : Int)), (42, .int .i64 (s : Nat))], [(1, .cells (cellsB (clo (cloR (tab1 p (2 ^ v)) p.rows.length r) r s))), (0, .cells (encPg p))], 2⟩) (2 ^ p.rows.length) ?_ ?_
              · exact ⟨_, Wk.refl _, 0, by omega, rfl⟩
              · rintro m4 σ ⟨s, hs, rfl⟩ KL4 hKL4
                refine tr_seq fun K23 hK23 => ?_
                refine tr_region [1, 3, 8, 34, 35, 41, 42, 43] rfl rfl fun K hK => ?_
                refine evR_p ?_
                refine evR_e hK ?_; clear hK K
                refine hK23 _ ?_
                refine tr_seq fun K24 hK24 => ?_
                refine tr_condB (fun ht4 => ?_) (fun ht4 => ?_)
                · skip
                  (first | (exfalso; omega) | skip)
                  all_goals
                    have hsl : s < 2 ^ p.rows.length := by omega
                    obtain ⟨hb1, hb2⟩ := nb_spec (s := s) (r := r) (by omega) (by omega)
                    have hcl := clrN_le s r
                    replace hq := And.intro hq (And.intro hsl (And.intro hb1 (hb2)))
                    refine tr_skip ?_
                    (try simp only [thenE, inBlkE])
                    refine hK24 _ ?_
                    refine tr_seq fun K25 hK25 => ?_
                    refine tr_block ?_
                    refine tr_seq fun K26 hK26 => ?_
                    refine tr_region [1, 3, 8, 9, 34, 35, 41, 42] rfl rfl fun K hK => ?_
                    iterate 2 refine evR_p ?_
                    refine evR_e hK ?_; clear hK K
                    refine hK26 _ ?_
                    refine tr_region [1, 3, 8, 34, 35, 41, 42] rfl rfl fun K hK => ?_
                    iterate 5 refine evR_p ?_
                    iterate 13 refine evR_g ?_
                    iterate 3 refine evR_p ?_
                    refine evR_e hK ?_; clear hK K
                    refine hK25 _ ?_
                    refine tr_region [1, 3, 8, 34, 35, 41, 42] rfl rfl fun K hK => ?_
                    iterate 2 refine evR_p ?_
                    refine evR_e hK ?_; clear hK K
                    refine hKL4 _ ?_
                    exact ⟨m4 - 1, _, by omega, Wk.refl _, s + 1, by omega, by (rw [w64 (x := (s : Int) + 1) (by omega), clo_step] <;> first | rfl | (cases hb : s.testBit r <;> simp))⟩
                · skip
                  (first | (exfalso; omega) | skip)
                  all_goals
                    have hsl : s = 2 ^ p.rows.length := by omega
                    subst hsl
                    refine tr_exit ?_
                    simp only [thenE, inBlkE, Nat.reduceEqDiff, ↓reduceIte]
                    refine hK20 _ ?_
                    refine tr_region [1, 3, 34, 35] rfl rfl fun K hK => ?_
                    iterate 2 refine evR_p ?_
                    refine evR_e hK ?_; clear hK K
                    refine hKL3 _ ?_
                    exact ⟨m3 - 1, _, by omega, Wk.refl _, r + 1, by omega, by rw [w64 (x := (r : Int) + 1) (by omega)]; rfl⟩
          · skip
            (first | (exfalso; omega) | skip)
            all_goals
              have hrl : r = p.rows.length := by omega
              refine tr_exit ?_
              simp only [thenE, inBlkE, Nat.reduceEqDiff, ↓reduceIte]
              refine hK16 _ ?_
              refine tr_seq fun K27 hK27 => ?_
              refine tr_fz [.ptr 1 0] (by simp (maxSteps := 4000000) (disch := first | assumption | omega | (simp only [go_sem, *]; done) | (simp only [go_sem, *]; omega)) only [go_sem, hq, Int.reduceToNat, Nat.reduceBEq, Nat.reduceEqDiff, Nat.reduceAdd, Nat.reduceMul, Nat.reduceLeDiff, Nat.reduceLT, Nat.reduceSub, ↓reduceIte, reduceCtorEq]; (try rfl)) ?_
              refine tr_region [2] rfl rfl fun K hK => ?_
              refine evR_p ?_
              refine evR_e hK ?_; clear hK K
              refine hK27 _ ?_
              refine tr_ret ?_
              (try simp only [thenE, inBlkE])
              simp (maxSteps := 4000000) (disch := first | assumption | omega | (simp only [go_sem, *]; done) | (simp only [go_sem, *]; omega)) only [postA, postO, resV1, fzAll, go_sem, hq, Int.reduceToNat, Nat.reduceBEq, Nat.reduceEqDiff, Nat.reduceAdd, Nat.reduceMul, Nat.reduceLeDiff, Nat.reduceLT, Nat.reduceSub, ↓reduceIte, reduceCtorEq]
              all_goals ((subst hrl; simp only [tabW, vars_nat hv1]))
end

end Go.Proofs.YtgmgifmfhpoglaaDoor


namespace Go.Proofs.YtgmgifmfhpoglaaDoor
open Go.RowKit
set_option linter.unusedVariables false
set_option linter.unusedSimpArgs false
set_option maxRecDepth 100000
attribute [local go_sem] Nat.zero_add Nat.add_zero Nat.mul_one eq_self ne_eq not_true_eq_false not_false_eq_true decide_true decide_false decide_not Bool.false_eq_true List.filter_cons List.filter_nil true_and and_true beq_false beq_true Bool.not_true Bool.not_false Bool.and_true Bool.true_and Option.getD_some Option.getD_none imp_self implies_true Int.toNat_natCast List.cons_append List.nil_append List.map_cons List.map_nil List.length_cons List.length_nil List.getD_cons_zero List.getD_cons_succ List.drop_zero List.drop_succ_cons List.take_succ_cons List.take_zero
attribute [local go_sem] isE isO stpO notIn St.bare evO evDO isEff stp St.get St.slot St.put List.lookup un unL ofVal gof nth pickV pkB_false pkB_true binV unV loadV idxV fldV partV buildV fillV lenV sliV appV appR rowsV winV V.parts V.okp V.sc Mem.look_cons Mem.look_nil V.cl V.clL AObj.clo fzAll exps St.fz Mem.fz V.fz V.fzL AObj.fz Option.isSome_some Option.isSome_none Bool.or_true Bool.true_or Bool.or_false Bool.false_or false_and and_false false_or or_false arT_102 arT_103 arT_22 arT_23 arT_26 arT_27 arT_31 arT_38 arT_45 arT_55 arT_85 arT_86 arT_9 boolT_100 boolT_23 boolT_3 boolT_32 boolT_4 boolT_98 flatT_100 flatT_23 flatT_3 flatT_32 flatT_4 flatT_98 intT_100 intT_3 intT_5 intT_81 intT_83 intT_98 lay_22 lay_23 lay_25 lay_27 lay_3 lay_37 lay_4 lay_45 lay_47 lay_5 lay_54 lay_61 lay_66 lay_82 lay_88 okF_10 okF_11 okF_12 okF_13 okF_14 okF_15 okF_16 okF_17 okF_18 okF_19 okF_20 okF_21 okF_22 okF_23 okF_24 okF_25 okF_26 okF_27 okF_28 okF_29 okF_3 okF_30 okF_31 okF_32 okF_33 okF_34 okF_35 okF_36 okF_37 okF_38 okF_39 okF_4 okF_40 okF_41 okF_42 okF_43 okF_44 okF_45 okF_46 okF_47 okF_48 okF_49 okF_5 okF_50 okF_51 okF_52 okF_53 okF_54 okF_55 okF_56 okF_57 okF_58 okF_59 okF_6 okF_60 okF_61 okF_62 okF_63 okF_64 okF_65 okF_66 okF_67 okF_68 okF_69 okF_7 okF_70 okF_71 okF_72 okF_73 okF_74 okF_75 okF_76 okF_77 okF_78 okF_79 okF_8 okF_80 okF_81 okF_82 okF_83 okF_84 okF_85 okF_86 okF_87 okF_88 okF_89 okF_9 plT_25 plT_47 plT_54 plT_93 plT_96 slT_102 slT_103 slT_22 slT_23 slT_26 slT_27 slT_31 slT_38 slT_45 slT_55 slT_85 slT_86 slT_94 stT_25_0 stT_25_1 stT_25_2 stT_47_0 stT_47_2 stT_47_3 stT_54_4 stT_54_5 stT_96_1 stT_96_2 strT_9 zeroT_23 zeroT_25 zeroT_3 zeroT_37 zeroT_4 zeroT_45 zeroT_47 zeroT_54 zeroT_55 zeroT_66 zeroT_82 zeroT_85 zeroT_86 zeroT_93 zeroT_96
attribute [local go_sem] List.getElem?_cons_zero List.getElem?_cons_succ List.zip_cons_cons List.zip_nil_left List.zip_nil_right Bool.false_and Bool.and_false List.length_append List.length_set List.length_replicate List.all_cons List.all_nil encI_length encI_getD encR_length encR_getD encRw encPg spl shp AObj.shp rowM isSt isRpS isRd csh AObj.csh forall_const imp_self
attribute [local simp] encI_length encR_length cellsI_length
attribute [local simp] cellsB_length tab1_length cloR_length clo_length tabW_length
section
attribute [local go_sem] cellsB_length cellsB_getD cellsB_dropD
theorem k59 (p : Pg) (hn : p.rows.length ≤ 12) (s : Nat) (hs : s < 2 ^ p.rows.length) : CallsA Tryd.prog 59 [.int .i64 (s : Nat), .ep [.ep (cellsB (tabW p))], .ep [.int .i64 ((2 ^ p.rows.length - 1 : Nat) : Int)]] (.bool (confS p s)) := by
  have hpn := pow_4096 hn
  have htl := tabW_length p
  have han := compl_and hn hs
  have hq := And.intro htl (han)
  refine callsA_of_tr Tryd.func59 rfl (Nat.le_of_ble_eq_true rfl) ?_
  simp only [Tryd.results59, envOf, Nat.reduceAdd]
  refine tr_seq fun K1 hK1 => ?_
  refine tr_region [0, 1, 2] rfl rfl fun K hK => ?_
  refine evR_p ?_
  refine evR_e hK ?_; clear hK K
  refine hK1 _ ?_
  refine tr_seq fun K2 hK2 => ?_
  refine tr_draw [] [4] mixed rfl (by kernel_rfl) rfl fun K hK => ?_
  iterate 9 refine evD_p ?_
  refine evD_e hK ?_; clear hK K
  refine hK2 _ ?_
  refine tr_ret ?_
  (try simp only [thenE, inBlkE])
  simp (maxSteps := 4000000) (disch := first | assumption | omega | (simp only [go_sem, *]; done) | (simp only [go_sem, *]; omega)) only [postA, postO, resV1, fzAll, go_sem, hq, Int.reduceToNat, Nat.reduceBEq, Nat.reduceEqDiff, Nat.reduceAdd, Nat.reduceMul, Nat.reduceLeDiff, Nat.reduceLT, Nat.reduceSub, ↓reduceIte, reduceCtorEq]
  all_goals (rfl)
end

section
attribute [local go_sem] cellsB_length cellsB_getD cellsB_dropD
theorem k41 (p : Pg) (hn : p.rows.length ≤ 12) (s : Nat) (hs : s < 2 ^ p.rows.length) : CallsA Tryd.prog 41 [.int .i64 (s : Nat), .ep [.ep (cellsB (tabW p))]] (.bool (repS p s)) := by
  have hpn := pow_4096 hn
  have htl := tabW_length p
  have hq := htl
  refine callsA_of_tr Tryd.func41 rfl (Nat.le_of_ble_eq_true rfl) ?_
  simp only [Tryd.results41, envOf, Nat.reduceAdd]
  refine tr_seq fun K1 hK1 => ?_
  refine tr_region [0, 1] rfl rfl fun K hK => ?_
  refine evR_p ?_
  refine evR_e hK ?_; clear hK K
  refine hK1 _ ?_
  refine tr_seq fun K2 hK2 => ?_
  refine tr_region [3] rfl rfl fun K hK => ?_
  iterate 6 refine evR_p ?_
  refine evR_e hK ?_; clear hK K
  refine hK2 _ ?_
  refine tr_ret ?_
  (try simp only [thenE, inBlkE])
  simp (maxSteps := 4000000) (disch := first | assumption | omega | (simp only [go_sem, *]; done) | (simp only [go_sem, *]; omega)) only [postA, postO, resV1, fzAll, go_sem, hq, Int.reduceToNat, Nat.reduceBEq, Nat.reduceEqDiff, Nat.reduceAdd, Nat.reduceMul, Nat.reduceLeDiff, Nat.reduceLT, Nat.reduceSub, ↓reduceIte, reduceCtorEq]
  all_goals (rfl)
end

theorem k35 (p : Pg) (hr : p.rows.length ≤ maxLen) (hg : p.gain.length ≤ maxLen) (hc : ∀ r ∈ p.rows, r.coef.length ≤ maxLen) (hv : validB p = true) (hn : p.rows.length ≤ 12) : CallsA Tryd.prog 35 [.agg (encPg p)] (.fn 59 [.ep [.ep (cellsB (tabW p))], .ep [.int .i64 ((2 ^ p.rows.length - 1 : Nat) : Int)]]) := by
  have hpn := pow_4096 hn
  have hn5 : shlW .i64 1 (p.rows.length : Nat) = ((2 ^ p.rows.length : Nat) : Int) := shl_pow hn
  have hpp := Nat.two_pow_pos p.rows.length
  have hw : IntKind.i64.wrap (((2 ^ p.rows.length : Nat) : Int) - 1) = ((2 ^ p.rows.length - 1 : Nat) : Int) := by rw [w64 (by omega)]; omega
  have hq := And.intro hn5 (hw)
  refine callsA_of_tr Tryd.func35 rfl (Nat.le_of_ble_eq_true rfl) ?_
  simp only [Tryd.results35, envOf, Nat.reduceAdd]
  refine tr_seq fun K1 hK1 => ?_
  refine tr_region [1] rfl rfl fun K hK => ?_
  iterate 2 refine evR_p ?_
  refine evR_e hK ?_; clear hK K
  refine hK1 _ ?_
  refine tr_seq fun K2 hK2 => ?_
  refine tr_region [1, 3] rfl rfl fun K hK => ?_
  refine evR_p ?_
  refine evR_c (hc := (k40 p hr hg hc hv hn)) (k := ?_)
  iterate 2 refine evR_p ?_
  refine evR_e hK ?_; clear hK K
  refine hK2 _ ?_
  refine tr_seq fun K3 hK3 => ?_
  refine tr_region [3, 4] rfl rfl fun K hK => ?_
  iterate 7 refine evR_p ?_
  refine evR_e hK ?_; clear hK K
  refine hK3 _ ?_
  refine tr_seq fun K4 hK4 => ?_
  refine tr_fz [.ptr 1 0, .ptr 2 0] (by simp (maxSteps := 4000000) (disch := first | assumption | omega | (simp only [go_sem, *]; done) | (simp only [go_sem, *]; omega)) only [go_sem, hq, Int.reduceToNat, Nat.reduceBEq, Nat.reduceEqDiff, Nat.reduceAdd, Nat.reduceMul, Nat.reduceLeDiff, Nat.reduceLT, Nat.reduceSub, ↓reduceIte, reduceCtorEq]; (try rfl)) ?_
  refine tr_region [2] rfl rfl fun K hK => ?_
  iterate 2 refine evR_p ?_
  refine evR_e hK ?_; clear hK K
  refine hK4 _ ?_
  refine tr_ret ?_
  (try simp only [thenE, inBlkE])
  simp (maxSteps := 4000000) (disch := first | assumption | omega | (simp only [go_sem, *]; done) | (simp only [go_sem, *]; omega)) only [postA, postO, resV1, fzAll, go_sem, hq, Int.reduceToNat, Nat.reduceBEq, Nat.reduceEqDiff, Nat.reduceAdd, Nat.reduceMul, Nat.reduceLeDiff, Nat.reduceLT, Nat.reduceSub, ↓reduceIte, reduceCtorEq]
  all_goals (rfl)

theorem k34 (n : Int) (g : FuncId) (caps : List V) (hcl : V.clL caps = true) : CallsA Tryd.prog 34 [.int .i64 n, .fn g caps] (.fn 58 [.ep [.int .i64 n], .ep [.fn g caps]]) := by
  have hfz := fun id o => V.fzL_cl id o caps hcl
  have hq := And.intro hcl (hfz)
  refine callsA_of_tr Tryd.func34 rfl (Nat.le_of_ble_eq_true rfl) ?_
  simp only [Tryd.results34, envOf, Nat.reduceAdd]
  refine tr_seq fun K1 hK1 => ?_
  refine tr_region [2, 3] rfl rfl fun K hK => ?_
  iterate 3 refine evR_p ?_
  refine evR_e hK ?_; clear hK K
  refine hK1 _ ?_
  refine tr_seq fun K2 hK2 => ?_
  refine tr_fz [.ptr 0 0, .ptr 1 0] (by simp (maxSteps := 4000000) (disch := first | assumption | omega | (simp only [go_sem, *]; done) | (simp only [go_sem, *]; omega)) only [go_sem, hq, Int.reduceToNat, Nat.reduceBEq, Nat.reduceEqDiff, Nat.reduceAdd, Nat.reduceMul, Nat.reduceLeDiff, Nat.reduceLT, Nat.reduceSub, ↓reduceIte, reduceCtorEq]; (try rfl)) ?_
  refine tr_region [4] rfl rfl fun K hK => ?_
  iterate 2 refine evR_p ?_
  refine evR_e hK ?_; clear hK K
  refine hK2 _ ?_
  refine tr_ret ?_
  (try simp only [thenE, inBlkE])
  simp (maxSteps := 4000000) (disch := first | assumption | omega | (simp only [go_sem, *]; done) | (simp only [go_sem, *]; omega)) only [postA, postO, resV1, fzAll, go_sem, hq, Int.reduceToNat, Nat.reduceBEq, Nat.reduceEqDiff, Nat.reduceAdd, Nat.reduceMul, Nat.reduceLeDiff, Nat.reduceLT, Nat.reduceSub, ↓reduceIte, reduceCtorEq]
  all_goals (rfl)

theorem k58 (n : Nat) (hn : n ≤ 12) (g : FuncId) (caps : List V) (q : Nat → Bool) (hok : okF Tryd.prog g = true) (hcl : V.clL caps = true) (hq1 : ∀ s : Nat, s < 2 ^ n → CallsA Tryd.prog g (.int .i64 (s : Nat) :: caps) (.bool (q s))) : SeqA Tryd.prog evS 58 [.ep [.int .i64 (n : Nat)], .ep [.fn g caps]] (fun xs => xs = setsT q (2 ^ n)) 4096 := by
  have hpn := pow_4096 hn
  have hn5 := shl_pow hn
  have hq := And.intro hn5 (And.intro hcl (hok))
  refine seqA_of_tr Tryd.func58 rfl (by rw [Tryd.results58]) enok_S (Nat.le_of_ble_eq_true rfl) (Nat.le_of_ble_eq_true rfl) fun l ys C hys hCY => ?_
  obtain ⟨y0, y1, rfl⟩ : ∃ y0 y1, ys = [y0, y1] := by match ys, hys with | [y0, y1], _ => exact ⟨y0, y1, rfl⟩
  simp only [List.zipWith_cons_cons, List.zipWith_nil_left, List.zip_cons_cons, List.zip_nil_left, envOf, List.cons_append, List.nil_append, Nat.reduceAdd] at hCY ⊢
  refine tr_seq fun K1 hK1 => ?_
  refine tr_region [0, 2, 6, 7, 1000000, 1000001] rfl rfl fun K hK => ?_
  iterate 3 refine evR_p ?_
  refine evR_e hK ?_; clear hK K
  refine hK1 _ ?_
  refine tr_block ?_
  -- loop 1: live [0, 2, 6, 7]
  refine tr_loopW (fun m σ => ∃ i : Nat, i + m = 2 ^ n ∧ σ = ⟨[(0, .yl l), (2, .eq y1 (.ep [.fn g caps])), (6, .int .i64 ((2 ^ n : Nat) : Int)), (7, .int .i64 (i : Nat)), (1000000, .tup ((setsT q i).map enS)), (1000001, .bool false)], [], 0⟩) (2 ^ n) ?_ ?_
  · exact ⟨_, Wk.refl _, 0, by omega, rfl⟩
  · rintro m σ ⟨i, hi, rfl⟩ KL1 hKL1
    refine tr_seq fun K2 hK2 => ?_
    refine tr_region [0, 2, 6, 7, 8, 1000000, 1000001] rfl rfl fun K hK => ?_
    refine evR_p ?_
    refine evR_e hK ?_; clear hK K
    refine hK2 _ ?_
    refine tr_seq fun K3 hK3 => ?_
    refine tr_condB (fun ht1 => ?_) (fun ht1 => ?_)
    · skip
      (first | (exfalso; simp_all; done) | skip)
      all_goals
        have hil : i < 2 ^ n := by omega
        have hi4 : i < 4096 := by omega
        have hcl2 := setsT_length q i
        replace hq := And.intro hq (hil)
        refine tr_skip ?_
        (try simp only [thenE, inBlkE])
        refine hK3 _ ?_
        refine tr_seq fun K4 hK4 => ?_
        refine tr_block ?_
        refine tr_seq fun K5 hK5 => ?_
        refine tr_region [0, 2, 4, 6, 7, 1000000, 1000001] rfl rfl fun K hK => ?_
        iterate 2 refine evR_p ?_
        refine evR_e hK ?_; clear hK K
        refine hK5 _ ?_
        refine tr_seq fun K6 hK6 => ?_
        refine tr_region [0, 2, 6, 7, 18, 1000000, 1000001] rfl rfl fun K hK => ?_
        iterate 2 refine evR_p ?_
        refine evR_c (hc := (hq1 i hil)) (k := ?_)
        refine evR_p ?_
        iterate 2 refine evR_g ?_
        refine evR_stepY rfl rfl fun Kq hKq => ⟨fun hyt => hCY _ _ _ ?_, fun hyt => ⟨.bool false, hKq _ ?_⟩⟩
        (try simp only [decide_eq_true_eq, decide_eq_false_iff_not, Bool.not_eq_true', Bool.not_eq_false', Bool.and_eq_true, Bool.or_eq_true, Bool.and_eq_false_iff, Bool.or_eq_false_iff, beq_true, beq_false] at hyt)
        simp (maxSteps := 4000000) (disch := first | assumption | omega | (simp only [go_sem, *]; done) | (simp only [go_sem, *]; omega)) only [YI, go_sem, hq, Int.reduceToNat, Nat.reduceBEq, Nat.reduceEqDiff, Nat.reduceAdd, Nat.reduceMul, Nat.reduceLeDiff, Nat.reduceLT, Nat.reduceSub, ↓reduceIte, reduceCtorEq]
        (repeat (refine And.intro (by first | assumption | omega | decide | (simp; done) | (simp; omega) | (have hq := hvv hgt; omega) | (have hq := hvv hgt.1; omega) | (simp_all; done)) ?_))
        refine ⟨⟨i, hi4⟩, setsT q i, [2], ?_⟩
        (repeat (refine And.intro (by first | rfl | exact (show (setsT q i).length < 4096 by omega) | (intro t ht; rw [List.mem_singleton] at ht; subst ht; exact ⟨_, List.mem_singleton.2 rfl, rfl⟩) | (intro t ht; rw [List.mem_singleton] at ht; subst ht; exact ⟨_, List.mem_cons_of_mem _ (List.mem_singleton.2 rfl), rfl⟩)) ?_))
        refine ⟨hKq _ ?_, hKq _ ?_⟩
        all_goals try simp only [goY, stY, keepE, simE, V.simpl, V.simp, List.cons_append, List.nil_append, St.put, St.slot, List.lookup, Option.getD_some, Nat.reduceBEq]
        all_goals (try clear hKq Kq)
        all_goals (try simp only [decide_eq_true_eq, decide_eq_false_iff_not, Bool.not_eq_true', Bool.not_eq_false', Bool.and_eq_true, Bool.or_eq_true, Bool.and_eq_false_iff, Bool.or_eq_false_iff, beq_true, beq_false] at hyt)
        all_goals
          refine evR_g ?_
          refine evR_p ?_
          refine evR_e hK ?_; clear hK K
          refine hK6 _ ?_
          refine tr_condB (fun ht2 => ?_) (fun ht2 => ?_)
          · skip
            (first | (exfalso; simp_all; done) | skip)
            all_goals
              refine tr_ret ?_
              (try simp only [thenE, inBlkE])
              simp (maxSteps := 4000000) (disch := first | assumption | omega | (simp only [go_sem, *]; done) | (simp only [go_sem, *]; omega)) only [postI, go_sem, hq, Int.reduceToNat, Nat.reduceBEq, Nat.reduceEqDiff, Nat.reduceAdd, Nat.reduceMul, Nat.reduceLeDiff, Nat.reduceLT, Nat.reduceSub, ↓reduceIte, reduceCtorEq]
              all_goals (first | exact Or.inl trivial | exact Or.inl rfl | exact Or.inr ⟨_, rfl, rfl⟩)
          · skip
            (first | (exfalso; simp_all; done) | skip)
            all_goals
              refine tr_skip ?_
              (try simp only [thenE, inBlkE])
              refine hK4 _ ?_
              refine tr_region [0, 2, 6, 7, 1000000, 1000001] rfl rfl fun K hK => ?_
              iterate 2 refine evR_p ?_
              refine evR_e hK ?_; clear hK K
              refine hKL1 _ ?_
              first
                | exact ⟨m - 1, _, by omega, Wk.cut 0 (by simp only [St.cutOK, List.all_cons, List.all_nil, V.upto, enS_uptoL, Bool.and_self, List.filter_nil]), i + 1, by omega, by rw [w64 (x := (i : Int) + 1) (by omega), setsT_t hi4 hyt]; rfl⟩
                | exact ⟨m - 1, _, by omega, Wk.cut 0 (by simp only [St.cutOK, List.all_cons, List.all_nil, V.upto, enS_uptoL, Bool.and_self, List.filter_nil]), i + 1, by omega, by rw [w64 (x := (i : Int) + 1) (by omega), setsT_f hyt]; rfl⟩
    · skip
      (first | (exfalso; simp_all; done) | skip)
      all_goals
        have hil : i = 2 ^ n := by omega
        subst hil
        refine tr_exit ?_
        simp only [thenE, inBlkE, Nat.reduceEqDiff, ↓reduceIte]
        simp (maxSteps := 4000000) (disch := first | assumption | omega | (simp only [go_sem, *]; done) | (simp only [go_sem, *]; omega)) only [postI, go_sem, hq, Int.reduceToNat, Nat.reduceBEq, Nat.reduceEqDiff, Nat.reduceAdd, Nat.reduceMul, Nat.reduceLeDiff, Nat.reduceLT, Nat.reduceSub, ↓reduceIte, reduceCtorEq]
        all_goals (first | exact Or.inl trivial | exact Or.inl rfl | exact Or.inr ⟨_, rfl, rfl⟩)

set_option maxHeartbeats 4000000 in
theorem k33 (f : FuncId) (caps : List V) (xs : List (Fin 4096)) (hit : SeqA Tryd.prog evS f caps (fun ys => ys = xs) 4096) (hcl : V.clL caps = true) (hok : okF Tryd.prog f = true) : CallsA Tryd.prog 33 [.fn f caps] (.sl 1 (encI (rowsN (lstW xs).1))) := by
  have hq := hcl
  refine callsA_of_trL Tryd.func33 rfl (Nat.le_of_ble_eq_true rfl) ?_
  simp only [Tryd.results33, envOf, Nat.reduceAdd]
  refine tr_seq fun K1 hK1 => ?_
  refine tr_region [0] rfl rfl fun K hK => ?_
  refine evR_p ?_
  refine evR_e hK ?_; clear hK K
  refine hK1 _ ?_
  refine tr_seq fun K2 hK2 => ?_
  refine tr_region [0, 3, 4] rfl rfl fun K hK => ?_
  iterate 4 refine evR_p ?_
  refine evR_e hK ?_; clear hK K
  refine hK2 _ ?_
  refine tr_seq fun K3 hK3 => ?_
  refine tr_region [0, 3, 4, 5] rfl rfl fun K hK => ?_
  iterate 2 refine evR_p ?_
  refine evR_e hK ?_; clear hK K
  refine hK3 _ ?_
  refine tr_seq fun K4 hK4 => ?_
  refine tr_seq fun K5 hK5 => ?_
  refine tr_region [3, 4, 5, 8] rfl rfl fun K hK => ?_
  refine evR_p ?_
  refine evR_e hK ?_; clear hK K
  refine hK5 _ ?_
  refine tr_block ?_
  -- loop over a function 1: live [3, 4, 5]
  refine tr_rangeFunc (en := enS) hit enok_S.rel rfl hcl hok rfl (fun pre σ => σ = ⟨[(3, .ptr 0 0), (4, .ptr 1 0), (5, .ptr 2 0)], [(2, .cells [.fn 55 []]), (1, .cells [.bool (lstW pre).2]), (0, .cells [.int .i64 ((lstW pre).1 : Nat)])], 3⟩) [3, 4, 5] ?_ ?_ ?_
  · rfl
  · rintro pre x σ rfl hpre KL1 hKL1 KA1 hKA1
    simp only [St.rd, List.filter_cons, List.filter_nil, List.map_cons, List.map_nil, Nat.blt_eq, Nat.reduceLT, ↓reduceIte, List.cons_append, List.nil_append, Nat.reduceAdd]
    obtain ⟨n, hn1⟩ := x
    have hn2 := lstW_lt pre
    have hu1 := u16_small hn1
    have hu2 := u16_small hn2
    simp only [enS]
    replace hq := And.intro hq (And.intro hu1 (hu2))
    refine tr_region [3, 4, 5, 6, 2000003, 2000004, 2000005] rfl rfl fun K hK => ?_
    refine evR_p ?_
    refine evR_e hK ?_; clear hK K
    refine hKA1 _ ?_
    refine tr_block ?_
    refine tr_seq fun K6 hK6 => ?_
    refine tr_draw [] [3, 4, 5, 6, 7, 2000003, 2000004, 2000005] mixed rfl (by kernel_rfl) rfl fun K hK => ?_
    iterate 2 refine evD_p ?_
    refine evD_c (hc := (k57 n hn1)) (k := ?_)
    iterate 2 refine evD_p ?_
    refine evD_c (hc := (k57 (lstW pre).1 hn2)) (k := ?_)
    iterate 2 refine evD_p ?_
    refine evD_e hK ?_; clear hK K
    refine hK6 _ ?_
    refine tr_seq fun K7 hK7 => ?_
    refine tr_draw [] [3, 4, 6, 39, 2000003, 2000004, 2000005] mixed rfl (by kernel_rfl) rfl fun K hK => ?_
    iterate 3 refine evD_p ?_
    iterate 2 refine evD_g ?_
    refine evD_gc (hc := (k55 n hn1)) (k := ?_)
    iterate 2 refine evD_g ?_
    refine evD_gc (hc := (k55 (lstW pre).1 hn2)) (k := ?_)
    refine evD_g ?_
    iterate 2 refine evD_p ?_
    iterate 2 refine evD_g ?_
    refine evD_gc (hc := (k55 n hn1)) (k := ?_)
    iterate 2 refine evD_g ?_
    refine evD_gc (hc := (k55 (lstW pre).1 hn2)) (k := ?_)
    iterate 4 refine evD_g ?_
    refine evD_p ?_
    refine evD_e hK ?_; clear hK K
    refine hK7 _ ?_
    refine tr_condB (fun ht1 => ?_) (fun ht1 => ?_)
    · skip
      refine tr_region [2000003, 2000004, 2000005] rfl rfl fun K hK => ?_
      iterate 3 refine evR_p ?_
      refine evR_e hK ?_; clear hK K
      refine hKL1 _ ?_
      simp only [St.bk, List.filterMap_cons, List.filterMap_nil, Nat.ble_eq, Nat.reduceLeDiff, ↓reduceIte, Nat.reduceSub]
      first
        | exact ⟨_, Wk.refl _, by rw [lstW_snoc, lstS_t (lstB_t (by assumption))]; first | done | rfl⟩
        | exact ⟨_, Wk.refl _, by rw [lstW_snoc, lstS_f (lstB_f (by assumption))]; first | done | rfl⟩
    · skip
      refine tr_skip ?_
      (try simp only [thenE, inBlkE])
      refine hKL1 _ ?_
      simp only [St.bk, List.filterMap_cons, List.filterMap_nil, Nat.ble_eq, Nat.reduceLeDiff, ↓reduceIte, Nat.reduceSub]
      first
        | exact ⟨_, Wk.refl _, by rw [lstW_snoc, lstS_t (lstB_t (by assumption))]; first | done | rfl⟩
        | exact ⟨_, Wk.refl _, by rw [lstW_snoc, lstS_f (lstB_f (by assumption))]; first | done | rfl⟩
  · rintro pre σ hS rfl
    subst hS
    have hn3 := lstW_lt pre
    refine hK4 _ ?_
    refine tr_seq fun K8 hK8 => ?_
    refine tr_region [2] rfl rfl fun K hK => ?_
    refine evR_p ?_
    refine evR_c (hc := (k43 _ hn3)) (k := ?_)
    refine evR_p ?_
    refine evR_e hK ?_; clear hK K
    refine hK8 _ ?_
    refine tr_ret ?_
    (try simp only [thenE, inBlkE])
    simp (maxSteps := 4000000) (disch := first | assumption | omega | (simp only [go_sem, *]; done) | (simp only [go_sem, *]; omega)) only [postA, postO, resV1, fzAll, go_sem, hq, Int.reduceToNat, Nat.reduceBEq, Nat.reduceEqDiff, Nat.reduceAdd, Nat.reduceMul, Nat.reduceLeDiff, Nat.reduceLT, Nat.reduceSub, ↓reduceIte, reduceCtorEq]
    all_goals (exact .refl _)

end Go.Proofs.YtgmgifmfhpoglaaDoor


namespace Go.Proofs.YtgmgifmfhpoglaaDoor
open Go.RowKit
set_option linter.unusedVariables false
set_option linter.unusedSimpArgs false
set_option maxRecDepth 100000
attribute [local go_sem] Nat.zero_add Nat.add_zero Nat.mul_one eq_self ne_eq not_true_eq_false not_false_eq_true decide_true decide_false decide_not Bool.false_eq_true List.filter_cons List.filter_nil true_and and_true beq_false beq_true Bool.not_true Bool.not_false Bool.and_true Bool.true_and Option.getD_some Option.getD_none imp_self implies_true Int.toNat_natCast List.cons_append List.nil_append List.map_cons List.map_nil List.length_cons List.length_nil List.getD_cons_zero List.getD_cons_succ List.drop_zero List.drop_succ_cons List.take_succ_cons List.take_zero
attribute [local go_sem] isE isO stpO notIn St.bare evO evDO isEff stp St.get St.slot St.put List.lookup un unL ofVal gof nth pickV pkB_false pkB_true binV unV loadV idxV fldV partV buildV fillV lenV sliV appV appR rowsV winV V.parts V.okp V.sc Mem.look_cons Mem.look_nil V.cl V.clL AObj.clo fzAll exps St.fz Mem.fz V.fz V.fzL AObj.fz Option.isSome_some Option.isSome_none Bool.or_true Bool.true_or Bool.or_false Bool.false_or false_and and_false false_or or_false arT_102 arT_103 arT_22 arT_23 arT_26 arT_27 arT_31 arT_38 arT_45 arT_55 arT_85 arT_86 arT_9 boolT_100 boolT_23 boolT_3 boolT_32 boolT_4 boolT_98 flatT_100 flatT_23 flatT_3 flatT_32 flatT_4 flatT_98 intT_100 intT_3 intT_5 intT_81 intT_83 intT_98 lay_22 lay_23 lay_25 lay_27 lay_3 lay_37 lay_4 lay_45 lay_47 lay_5 lay_54 lay_61 lay_66 lay_82 lay_88 okF_10 okF_11 okF_12 okF_13 okF_14 okF_15 okF_16 okF_17 okF_18 okF_19 okF_20 okF_21 okF_22 okF_23 okF_24 okF_25 okF_26 okF_27 okF_28 okF_29 okF_3 okF_30 okF_31 okF_32 okF_33 okF_34 okF_35 okF_36 okF_37 okF_38 okF_39 okF_4 okF_40 okF_41 okF_42 okF_43 okF_44 okF_45 okF_46 okF_47 okF_48 okF_49 okF_5 okF_50 okF_51 okF_52 okF_53 okF_54 okF_55 okF_56 okF_57 okF_58 okF_59 okF_6 okF_60 okF_61 okF_62 okF_63 okF_64 okF_65 okF_66 okF_67 okF_68 okF_69 okF_7 okF_70 okF_71 okF_72 okF_73 okF_74 okF_75 okF_76 okF_77 okF_78 okF_79 okF_8 okF_80 okF_81 okF_82 okF_83 okF_84 okF_85 okF_86 okF_87 okF_88 okF_89 okF_9 plT_25 plT_47 plT_54 plT_93 plT_96 slT_102 slT_103 slT_22 slT_23 slT_26 slT_27 slT_31 slT_38 slT_45 slT_55 slT_85 slT_86 slT_94 stT_25_0 stT_25_1 stT_25_2 stT_47_0 stT_47_2 stT_47_3 stT_54_4 stT_54_5 stT_96_1 stT_96_2 strT_9 zeroT_23 zeroT_25 zeroT_3 zeroT_37 zeroT_4 zeroT_45 zeroT_47 zeroT_54 zeroT_55 zeroT_66 zeroT_82 zeroT_85 zeroT_86 zeroT_93 zeroT_96
attribute [local go_sem] List.getElem?_cons_zero List.getElem?_cons_succ List.zip_cons_cons List.zip_nil_left List.zip_nil_right Bool.false_and Bool.and_false List.length_append List.length_set List.length_replicate List.all_cons List.all_nil encI_length encI_getD encR_length encR_getD encRw encPg spl shp AObj.shp rowM isSt isRpS isRd csh AObj.csh forall_const imp_self
attribute [local simp] encI_length encR_length cellsI_length
theorem k12 (p : Pg) (hr : p.rows.length ≤ maxLen) (hg : p.gain.length ≤ maxLen) (hc : ∀ r ∈ p.rows, r.coef.length ≤ maxLen) (hs : smallB p = true) : CallsA Tryd.prog 12 [.agg (encPg p)] (.tup [.sl 1 (encI (coreL p)), .int .i64 0]) := by
  obtain ⟨hn, hv⟩ := smallB_spec hs
  have hq := hs
  refine callsA_of_tr Tryd.func12 rfl (Nat.le_of_ble_eq_true rfl) ?_
  simp only [Tryd.results12, envOf, Nat.reduceAdd]
  refine tr_seq fun K1 hK1 => ?_
  refine tr_region [1] rfl rfl fun K hK => ?_
  iterate 3 refine evR_p ?_
  refine evR_e hK ?_; clear hK K
  refine hK1 _ ?_
  refine tr_seq fun K2 hK2 => ?_
  refine tr_seq fun K3 hK3 => ?_
  refine tr_region [1, 6] rfl rfl fun K hK => ?_
  refine evR_p ?_
  refine evR_c (hc := (k32 p hr hg hc)) (k := ?_)
  refine evR_p ?_
  refine evR_e hK ?_; clear hK K
  refine hK3 _ ?_
  refine tr_condB (fun ht1 => ?_) (fun ht1 => ?_)
  · skip
    (first | (exfalso; simp_all; done) | skip)
    all_goals
      refine tr_seq fun K4 hK4 => ?_
      refine tr_region [2, 3] rfl rfl fun K hK => ?_
      iterate 2 refine evR_p ?_
      refine evR_e hK ?_; clear hK K
      refine hK4 _ ?_
      refine tr_ret ?_
      (try simp only [thenE, inBlkE])
      simp (maxSteps := 4000000) (disch := first | assumption | omega | (simp only [go_sem, *]; done) | (simp only [go_sem, *]; omega)) only [postA, postO, resV1, fzAll, go_sem, hq, Int.reduceToNat, Nat.reduceBEq, Nat.reduceEqDiff, Nat.reduceAdd, Nat.reduceMul, Nat.reduceLeDiff, Nat.reduceLT, Nat.reduceSub, ↓reduceIte, reduceCtorEq]
      all_goals (rfl)
  · skip
    (first | (exfalso; simp_all; done) | skip)
    all_goals
      refine tr_skip ?_
      (try simp only [thenE, inBlkE])
      refine hK2 _ ?_
      refine tr_seq fun K5 hK5 => ?_
      refine tr_draw [] [2, 3] mixed rfl (by kernel_rfl) rfl fun K hK => ?_
      iterate 4 refine evD_p ?_
      refine evD_c (hc := (k35 p hr hg hc hv hn)) (k := ?_)
      refine evD_c (hc := (k34 _ 59 [.ep [.ep (cellsB (tabW p))], .ep [.int .i64 ((2 ^ p.rows.length - 1 : Nat) : Int)]] rfl)) (k := ?_)
      refine evD_c (hc := (k33 58 [.ep [.int .i64 (p.rows.length : Nat)], .ep [.fn 59 [.ep [.ep (cellsB (tabW p))], .ep [.int .i64 ((2 ^ p.rows.length - 1 : Nat) : Int)]]]] (setsT (confS p) (2 ^ p.rows.length)) (k58 p.rows.length hn 59 [.ep [.ep (cellsB (tabW p))], .ep [.int .i64 ((2 ^ p.rows.length - 1 : Nat) : Int)]] (confS p) okF_59 rfl (fun s hs => k59 p hn s hs)) rfl okF_58)) (k := ?_)
      iterate 2 refine evD_p ?_
      refine evD_e hK ?_; clear hK K
      refine hK5 _ ?_
      refine tr_ret ?_
      (try simp only [thenE, inBlkE])
      simp (maxSteps := 4000000) (disch := first | assumption | omega | (simp only [go_sem, *]; done) | (simp only [go_sem, *]; omega)) only [postA, postO, resV1, fzAll, go_sem, hq, Int.reduceToNat, Nat.reduceBEq, Nat.reduceEqDiff, Nat.reduceAdd, Nat.reduceMul, Nat.reduceLeDiff, Nat.reduceLT, Nat.reduceSub, ↓reduceIte, reduceCtorEq]
      all_goals (rfl)

theorem k12n (p : Pg) (hr : p.rows.length ≤ maxLen) (hg : p.gain.length ≤ maxLen) (hc : ∀ r ∈ p.rows, r.coef.length ≤ maxLen) (hs : smallB p = false) : CallsA Tryd.prog 12 [.agg (encPg p)] (.tup [.nsl, .int .i64 270]) := by
  have hq := hs
  refine callsA_of_tr Tryd.func12 rfl (Nat.le_of_ble_eq_true rfl) ?_
  simp only [Tryd.results12, envOf, Nat.reduceAdd]
  refine tr_seq fun K1 hK1 => ?_
  refine tr_region [1] rfl rfl fun K hK => ?_
  iterate 3 refine evR_p ?_
  refine evR_e hK ?_; clear hK K
  refine hK1 _ ?_
  refine tr_seq fun K2 hK2 => ?_
  refine tr_seq fun K3 hK3 => ?_
  refine tr_region [1, 6] rfl rfl fun K hK => ?_
  refine evR_p ?_
  refine evR_c (hc := (k32 p hr hg hc)) (k := ?_)
  refine evR_p ?_
  refine evR_e hK ?_; clear hK K
  refine hK3 _ ?_
  refine tr_condB (fun ht1 => ?_) (fun ht1 => ?_)
  · skip
    (first | (exfalso; simp_all; done) | skip)
    all_goals
      refine tr_seq fun K4 hK4 => ?_
      refine tr_region [2, 3] rfl rfl fun K hK => ?_
      iterate 2 refine evR_p ?_
      refine evR_e hK ?_; clear hK K
      refine hK4 _ ?_
      refine tr_ret ?_
      (try simp only [thenE, inBlkE])
      simp (maxSteps := 4000000) (disch := first | assumption | omega | (simp only [go_sem, *]; done) | (simp only [go_sem, *]; omega)) only [postA, postO, resV1, fzAll, go_sem, hq, Int.reduceToNat, Nat.reduceBEq, Nat.reduceEqDiff, Nat.reduceAdd, Nat.reduceMul, Nat.reduceLeDiff, Nat.reduceLT, Nat.reduceSub, ↓reduceIte, reduceCtorEq]
      all_goals (rfl)
  · skip
    (first | (exfalso; simp_all; done) | skip)
    all_goals
      refine tr_skip ?_
      (try simp only [thenE, inBlkE])
      refine hK2 _ ?_
      refine tr_seq fun K5 hK5 => ?_
      refine tr_draw [] [2, 3] mixed rfl (by kernel_rfl) rfl fun K hK => ?_
      iterate 4 refine evD_p ?_
      refine evD_c (hc := (k35 p hr hg hc hv hn)) (k := ?_)
      refine evD_c (hc := (k34 _ 59 [.ep [.ep (cellsB (tabW p))], .ep [.int .i64 ((2 ^ p.rows.length - 1 : Nat) : Int)]] rfl)) (k := ?_)
      refine evD_c (hc := (k33 58 [.ep [.int .i64 (p.rows.length : Nat)], .ep [.fn 59 [.ep [.ep (cellsB (tabW p))], .ep [.int .i64 ((2 ^ p.rows.length - 1 : Nat) : Int)]]]] (setsT (confS p) (2 ^ p.rows.length)) (k58 p.rows.length hn 59 [.ep [.ep (cellsB (tabW p))], .ep [.int .i64 ((2 ^ p.rows.length - 1 : Nat) : Int)]] (confS p) okF_59 rfl (fun s hs => k59 p hn s hs)) rfl okF_58)) (k := ?_)
      iterate 2 refine evD_p ?_
      refine evD_e hK ?_; clear hK K
      refine hK5 _ ?_
      refine tr_ret ?_
      (try simp only [thenE, inBlkE])
      simp (maxSteps := 4000000) (disch := first | assumption | omega | (simp only [go_sem, *]; done) | (simp only [go_sem, *]; omega)) only [postA, postO, resV1, fzAll, go_sem, hq, Int.reduceToNat, Nat.reduceBEq, Nat.reduceEqDiff, Nat.reduceAdd, Nat.reduceMul, Nat.reduceLeDiff, Nat.reduceLT, Nat.reduceSub, ↓reduceIte, reduceCtorEq]
      all_goals (rfl)

theorem k14 (p : Pg) (hr : p.rows.length ≤ maxLen) (hg : p.gain.length ≤ maxLen) (hc : ∀ r ∈ p.rows, r.coef.length ≤ maxLen) (hs : smallB p = true) : CallsA Tryd.prog 14 [.agg (encPg p)] (.tup [.sl 1 (encI (repL p)), .int .i64 0]) := by
  obtain ⟨hn, hv⟩ := smallB_spec hs
  have hq := hs
  refine callsA_of_tr Tryd.func14 rfl (Nat.le_of_ble_eq_true rfl) ?_
  simp only [Tryd.results14, envOf, Nat.reduceAdd]
  refine tr_seq fun K1 hK1 => ?_
  refine tr_region [1] rfl rfl fun K hK => ?_
  iterate 3 refine evR_p ?_
  refine evR_e hK ?_; clear hK K
  refine hK1 _ ?_
  refine tr_seq fun K2 hK2 => ?_
  refine tr_seq fun K3 hK3 => ?_
  refine tr_region [1, 7] rfl rfl fun K hK => ?_
  refine evR_p ?_
  refine evR_c (hc := (k32 p hr hg hc)) (k := ?_)
  refine evR_p ?_
  refine evR_e hK ?_; clear hK K
  refine hK3 _ ?_
  refine tr_condB (fun ht1 => ?_) (fun ht1 => ?_)
  · skip
    (first | (exfalso; simp_all; done) | skip)
    all_goals
      refine tr_seq fun K4 hK4 => ?_
      refine tr_region [2, 3] rfl rfl fun K hK => ?_
      iterate 2 refine evR_p ?_
      refine evR_e hK ?_; clear hK K
      refine hK4 _ ?_
      refine tr_ret ?_
      (try simp only [thenE, inBlkE])
      simp (maxSteps := 4000000) (disch := first | assumption | omega | (simp only [go_sem, *]; done) | (simp only [go_sem, *]; omega)) only [postA, postO, resV1, fzAll, go_sem, hq, Int.reduceToNat, Nat.reduceBEq, Nat.reduceEqDiff, Nat.reduceAdd, Nat.reduceMul, Nat.reduceLeDiff, Nat.reduceLT, Nat.reduceSub, ↓reduceIte, reduceCtorEq]
      all_goals (rfl)
  · skip
    (first | (exfalso; simp_all; done) | skip)
    all_goals
      refine tr_skip ?_
      (try simp only [thenE, inBlkE])
      refine hK2 _ ?_
      refine tr_seq fun K5 hK5 => ?_
      refine tr_region [1, 4] rfl rfl fun K hK => ?_
      refine evR_p ?_
      refine evR_c (hc := (k40 p hr hg hc hv hn)) (k := ?_)
      iterate 2 refine evR_p ?_
      refine evR_e hK ?_; clear hK K
      refine hK5 _ ?_
      refine tr_seq fun K6 hK6 => ?_
      refine tr_fz [.ptr 1 0] (by simp (maxSteps := 4000000) (disch := first | assumption | omega | (simp only [go_sem, *]; done) | (simp only [go_sem, *]; omega)) only [go_sem, hq, Int.reduceToNat, Nat.reduceBEq, Nat.reduceEqDiff, Nat.reduceAdd, Nat.reduceMul, Nat.reduceLeDiff, Nat.reduceLT, Nat.reduceSub, ↓reduceIte, reduceCtorEq]; (try rfl)) ?_
      refine tr_region [2, 3] rfl rfl fun K hK => ?_
      iterate 4 refine evR_p ?_
      refine evR_c (hc := (k34 _ 41 [.ep [.ep (cellsB (tabW p))]] rfl)) (k := ?_)
      refine evR_c (hc := (k33 58 [.ep [.int .i64 (p.rows.length : Nat)], .ep [.fn 41 [.ep [.ep (cellsB (tabW p))]]]] (setsT (repS p) (2 ^ p.rows.length)) (k58 p.rows.length hn 41 [.ep [.ep (cellsB (tabW p))]] (repS p) okF_41 rfl (fun s hs => k41 p hn s hs)) rfl okF_58)) (k := ?_)
      iterate 2 refine evR_p ?_
      refine evR_e hK ?_; clear hK K
      refine hK6 _ ?_
      refine tr_ret ?_
      (try simp only [thenE, inBlkE])
      simp (maxSteps := 4000000) (disch := first | assumption | omega | (simp only [go_sem, *]; done) | (simp only [go_sem, *]; omega)) only [postA, postO, resV1, fzAll, go_sem, hq, Int.reduceToNat, Nat.reduceBEq, Nat.reduceEqDiff, Nat.reduceAdd, Nat.reduceMul, Nat.reduceLeDiff, Nat.reduceLT, Nat.reduceSub, ↓reduceIte, reduceCtorEq]
      all_goals (rfl)

theorem k14n (p : Pg) (hr : p.rows.length ≤ maxLen) (hg : p.gain.length ≤ maxLen) (hc : ∀ r ∈ p.rows, r.coef.length ≤ maxLen) (hs : smallB p = false) : CallsA Tryd.prog 14 [.agg (encPg p)] (.tup [.nsl, .int .i64 270]) := by
  have hq := hs
  refine callsA_of_tr Tryd.func14 rfl (Nat.le_of_ble_eq_true rfl) ?_
  simp only [Tryd.results14, envOf, Nat.reduceAdd]
  refine tr_seq fun K1 hK1 => ?_
  refine tr_region [1] rfl rfl fun K hK => ?_
  iterate 3 refine evR_p ?_
  refine evR_e hK ?_; clear hK K
  refine hK1 _ ?_
  refine tr_seq fun K2 hK2 => ?_
  refine tr_seq fun K3 hK3 => ?_
  refine tr_region [1, 7] rfl rfl fun K hK => ?_
  refine evR_p ?_
  refine evR_c (hc := (k32 p hr hg hc)) (k := ?_)
  refine evR_p ?_
  refine evR_e hK ?_; clear hK K
  refine hK3 _ ?_
  refine tr_condB (fun ht1 => ?_) (fun ht1 => ?_)
  · skip
    (first | (exfalso; simp_all; done) | skip)
    all_goals
      refine tr_seq fun K4 hK4 => ?_
      refine tr_region [2, 3] rfl rfl fun K hK => ?_
      iterate 2 refine evR_p ?_
      refine evR_e hK ?_; clear hK K
      refine hK4 _ ?_
      refine tr_ret ?_
      (try simp only [thenE, inBlkE])
      simp (maxSteps := 4000000) (disch := first | assumption | omega | (simp only [go_sem, *]; done) | (simp only [go_sem, *]; omega)) only [postA, postO, resV1, fzAll, go_sem, hq, Int.reduceToNat, Nat.reduceBEq, Nat.reduceEqDiff, Nat.reduceAdd, Nat.reduceMul, Nat.reduceLeDiff, Nat.reduceLT, Nat.reduceSub, ↓reduceIte, reduceCtorEq]
      all_goals (rfl)
  · skip
    (first | (exfalso; simp_all; done) | skip)
    all_goals
      refine tr_skip ?_
      (try simp only [thenE, inBlkE])
      refine hK2 _ ?_
      refine tr_seq fun K5 hK5 => ?_
      refine tr_region [1, 4] rfl rfl fun K hK => ?_
      refine evR_p ?_
      refine evR_c (hc := (k40 p hr hg hc hv hn)) (k := ?_)
      iterate 2 refine evR_p ?_
      refine evR_e hK ?_; clear hK K
      refine hK5 _ ?_
      refine tr_seq fun K6 hK6 => ?_
      refine tr_region [2, 3] rfl rfl fun K hK => ?_
      iterate 4 refine evR_p ?_
      refine evR_c (hc := (k34 _ 41 [.ep [.ep (cellsB (tabW p))]] rfl)) (k := ?_)
      refine evR_c (hc := (k33 58 [.ep [.int .i64 (p.rows.length : Nat)], .ep [.fn 41 [.ep [.ep (cellsB (tabW p))]]]] (setsT (repS p) (2 ^ p.rows.length)) (k58 p.rows.length hn 41 [.ep [.ep (cellsB (tabW p))]] (repS p) okF_41 rfl (fun s hs => k41 p hn s hs)) rfl okF_58)) (k := ?_)
      iterate 2 refine evR_p ?_
      refine evR_e hK ?_; clear hK K
      refine hK6 _ ?_
      refine tr_ret ?_
      (try simp only [thenE, inBlkE])
      simp (maxSteps := 4000000) (disch := first | assumption | omega | (simp only [go_sem, *]; done) | (simp only [go_sem, *]; omega)) only [postA, postO, resV1, fzAll, go_sem, hq, Int.reduceToNat, Nat.reduceBEq, Nat.reduceEqDiff, Nat.reduceAdd, Nat.reduceMul, Nat.reduceLeDiff, Nat.reduceLT, Nat.reduceSub, ↓reduceIte, reduceCtorEq]
      all_goals (rfl)

end Go.Proofs.YtgmgifmfhpoglaaDoor


namespace Go.Proofs.YtgmgifmfhpoglaaDoor
open Go.RowKit
set_option linter.unusedVariables false
set_option linter.unusedSimpArgs false
def cnfB (p : Pg) (l : List Int) : Bool := (smallB p && tbI (tbW p.rows.length l)) && confS p (tbS (tbW p.rows.length l)).toNat
theorem tb_nat {n : Nat} {l : List Int} (hn : n ≤ 12) (h : tbI (tbW n l) = true) : ∃ s : Nat, tbW n l = some (s : Int) ∧ s < 2 ^ n ∧ l = rowsN s := by
  unfold tbI at h
  obtain ⟨o, ho⟩ := Option.isSome_iff_exists.1 h
  obtain ⟨s, rfl, h1, h2⟩ := tbW_some hn ho
  exact ⟨s, ho, h1, h2⟩
theorem cnf_spec {p : Pg} {l : List Int} (h : cnfB p l = true) : smallB p = true ∧ ∃ s : Nat, tbW p.rows.length l = some (s : Int) ∧ s < 2 ^ p.rows.length ∧ l = rowsN s ∧ confS p s = true := by
  unfold cnfB at h
  simp only [Bool.and_eq_true] at h
  obtain ⟨⟨h1, h2⟩, h3⟩ := h
  obtain ⟨s, hs, h4, h5⟩ := tb_nat (smallB_spec h1).1 h2
  refine ⟨h1, s, hs, h4, h5, ?_⟩
  rw [hs] at h3
  simpa [tbS] using h3
theorem cnf_no {p : Pg} {l : List Int} (h : cnfB p l = false) (h1 : smallB p = true) (h2 : tbI (tbW p.rows.length l) = true) : confS p (tbS (tbW p.rows.length l)).toNat = false := by
  unfold cnfB at h
  rw [h1, h2] at h
  simpa using h
theorem rows_at {s n : Nat} (hs : s < 2 ^ n) (hn : n ≤ 12) {k : Nat} (hk : k < (rowsN s).length) : ∃ r : Nat, (rowsN s).getD k 0 = (r : Int) ∧ r < n ∧ s.testBit r = true := by
  obtain ⟨i, e, h1, h2⟩ := mem_rowsN.1 (getD_mem (d := 0) hk)
  exact ⟨i, e, bit_lt hs h2, h2⟩
def minB (p : Pg) (l : List Int) : Bool := cnfB p l && (List.range l.length).all fun k => !confS p (clrN (tbS (tbW p.rows.length l)).toNat (l.getD k 0).toNat)
theorem min_yes {p : Pg} {l : List Int} {s : Nat} (hc : cnfB p l = true) (ht : tbW p.rows.length l = some (s : Int)) (h : ∀ k, k < l.length → confS p (clrN s (l.getD k 0).toNat) = false) : minB p l = true := by
  unfold minB
  rw [hc, ht, Bool.true_and, List.all_eq_true]
  intro k hk
  rw [List.mem_range] at hk
  simpa [tbS] using h k hk
theorem min_no {p : Pg} {l : List Int} {s k : Nat} (ht : tbW p.rows.length l = some (s : Int)) (hk : k < l.length) (h : confS p (clrN s (l.getD k 0).toNat) = true) : minB p l = false := by
  unfold minB
  rw [Bool.and_eq_false_iff]
  refine .inr ?_
  rw [List.all_eq_false]
  refine ⟨k, List.mem_range.2 hk, ?_⟩
  rw [ht]
  simpa [tbS] using h
theorem min_none {p : Pg} {l : List Int} (h : cnfB p l = false) : minB p l = false := by unfold minB; rw [h]; rfl
theorem clr_lt {s n r : Nat} (h : s < 2 ^ n) : clrN s r < 2 ^ n := Nat.lt_of_le_of_lt (clrN_le s r) h
/-- What Shrink answers. -/
def shrV (p : Pg) (l : List Int) : List V := if cnfB p l then [.sl 1 (encI (rowsN (shrG p l (tbS (tbW p.rows.length l)).toNat l.length))), .int .i64 0] else [.nsl, .int .i64 270]
theorem shr_yes {p : Pg} {l : List Int} {s : Nat} (h : cnfB p l = true) (ht : tbW p.rows.length l = some (s : Int)) : shrV p l = [.sl 1 (encI (rowsN (shrG p l s l.length))), .int .i64 0] := by
  unfold shrV; rw [if_pos h, ht]; simp [tbS]
theorem shr_no {p : Pg} {l : List Int} (h : cnfB p l = false) : shrV p l = [.nsl, .int .i64 270] := by
  unfold shrV; rw [if_neg (by simp [h])]
def coreV (p : Pg) : List V := if smallB p then [.sl 1 (encI (coreL p)), .int .i64 0] else [.nsl, .int .i64 270]
def repV (p : Pg) : List V := if smallB p then [.sl 1 (encI (repL p)), .int .i64 0] else [.nsl, .int .i64 270]
end Go.Proofs.YtgmgifmfhpoglaaDoor
