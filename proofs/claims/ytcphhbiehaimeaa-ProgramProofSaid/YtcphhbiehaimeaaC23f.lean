import Derived.Test.YtcphhbiehaimeaaF23
import Derived.Test.YtcphhbiehaimeaaAi24
import Derived.Test.YtcphhbiehaimeaaP23
import Derived.Test.YtcphhbiehaimeaaC23a
import Derived.Test.YtcphhbiehaimeaaC23b
namespace Go.Proofs.Ytcphhbiehaimeaa
open Go.RowKit
set_option linter.unusedVariables false
set_option linter.unusedSimpArgs false
set_option maxRecDepth 100000
attribute [local go_sem] Nat.zero_add Nat.add_zero Nat.mul_one eq_self ne_eq not_true_eq_false not_false_eq_true decide_true decide_false decide_not Bool.false_eq_true List.filter_cons List.filter_nil true_and and_true beq_false beq_true Bool.not_true Bool.not_false Bool.and_true Bool.true_and Option.getD_some Option.getD_none imp_self implies_true Int.toNat_natCast List.cons_append List.nil_append List.map_cons List.map_nil List.length_cons List.length_nil List.getD_cons_zero List.getD_cons_succ List.drop_zero List.drop_succ_cons List.take_succ_cons List.take_zero
attribute [local go_sem] isE isO stpO notIn St.bare evO evDO isEff stp St.get St.slot St.put List.lookup un unL ofVal gof nth pickV pkB_false pkB_true binV unV loadV idxV fldV partV buildV fillV lenV sliV appV appR rowsV winV V.parts V.okp V.sc Mem.look_cons Mem.look_nil V.cl V.clL AObj.clo fzAll exps St.fz Mem.fz V.fz V.fzL AObj.fz Option.isSome_some Option.isSome_none Bool.or_true Bool.true_or Bool.or_false Bool.false_or false_and and_false false_or or_false arT_22 arT_23 arT_24 arT_27 arT_34 arT_35 arT_50 arT_59 arT_61 arT_64 arT_65 arT_68 boolT_24 boolT_3 boolT_38 boolT_4 boolT_79 flatT_24 flatT_3 flatT_38 flatT_4 flatT_79 intT_3 intT_93 lay_23 lay_24 lay_26 lay_27 lay_29 lay_3 lay_32 lay_35 lay_37 lay_4 lay_59 lay_68 lay_70 lay_79 lay_82 lay_88 okF_10 okF_11 okF_12 okF_13 okF_14 okF_15 okF_16 okF_17 okF_18 okF_19 okF_20 okF_21 okF_22 okF_23 okF_24 okF_25 okF_26 okF_27 okF_28 okF_29 okF_3 okF_30 okF_31 okF_32 okF_33 okF_34 okF_35 okF_36 okF_37 okF_38 okF_39 okF_4 okF_40 okF_41 okF_42 okF_43 okF_44 okF_45 okF_46 okF_47 okF_48 okF_49 okF_5 okF_50 okF_51 okF_52 okF_53 okF_54 okF_55 okF_56 okF_57 okF_58 okF_59 okF_6 okF_60 okF_61 okF_62 okF_63 okF_64 okF_65 okF_66 okF_67 okF_68 okF_69 okF_7 okF_70 okF_71 okF_72 okF_73 okF_74 okF_75 okF_8 okF_9 plT_26 plT_29 plT_37 plT_70 plT_79 slT_22 slT_23 slT_24 slT_27 slT_34 slT_35 slT_50 slT_59 slT_61 slT_64 slT_65 slT_68 stT_26_0 stT_26_1 stT_26_2 stT_26_3 stT_26_4 stT_26_5 stT_29_0 stT_29_1 stT_29_2 stT_37_0 stT_37_1 stT_37_2 stT_37_3 stT_70_0 stT_70_1 stT_70_2 stT_70_3 stT_79_0 stT_79_1 zeroT_24 zeroT_26 zeroT_29 zeroT_3 zeroT_32 zeroT_35 zeroT_37 zeroT_59 zeroT_65 zeroT_70 zeroT_79
attribute [local go_sem] List.getElem?_cons_zero List.getElem?_cons_succ List.zip_cons_cons List.zip_nil_left List.zip_nil_right Bool.false_and Bool.and_false List.length_append List.length_set List.length_replicate List.all_cons List.all_nil encI_length encI_getD encR_length encR_getD encRw encPg spl shp AObj.shp rowM isSt isRpS isRd csh AObj.csh forall_const imp_self
attribute [local simp] encI_length encR_length
theorem c40 (p : Pg) (hg : p.gain.length ≤ 1000) (gain : Int) : CallsA Try.prog 40 [.agg (encPg p), .int .i64 gain] (.agg (encRw (goalW p gain))) := by
  have hq : True := trivial
  refine callsA_of_tr Try.func40 rfl (Nat.le_of_ble_eq_true rfl) ?_
  simp only [Try.results40, envOf, Nat.reduceAdd]
  refine tr_seq fun K1 hK1 => ?_
  refine tr_region [1, 2, 4] rfl rfl fun K hK => ?_
  iterate 2 refine evR_p ?_
  refine evR_e hK ?_; clear hK K
  refine hK1 _ ?_
  refine tr_seq fun K2 hK2 => ?_
  refine tr_region [2, 4, 5] rfl rfl fun K hK => ?_
  iterate 6 refine evR_p ?_
  refine evR_e hK ?_; clear hK K
  refine hK2 _ ?_
  refine tr_seq fun K3 hK3 => ?_
  refine tr_seq fun K4 hK4 => ?_
  refine tr_region [4, 5, 13, 14, 15] rfl rfl fun K hK => ?_
  iterate 4 refine evR_p ?_
  refine evR_e hK ?_; clear hK K
  refine hK4 _ ?_
  refine tr_block ?_
  -- loop 1: live [4, 5, 13, 14, 15]
  refine tr_loopW (fun m σ => ∃ i, i + m = p.gain.length ∧ σ = ⟨[(4, .ptr 1 0), (5, .ptr 2 0), (13, .sl 1 (encI p.gain)), (14, .int .i64 p.gain.length), (15, .int .i64 (i : Nat))], [(3, .row 3 1 (encI (negG p.gain i))), (2, .cells [.int .i64 0, .int .i64 0, .int .i64 0, .int .i64 0, .own 3, .int .i64 (IntKind.i64.wrap (0 - IntKind.i64.wrap (gain + 1)))]), (1, .cells [.int .i64 0, .int .i64 0, .int .i64 0, .int .i64 0, .nsl, .int .i64 0]), (0, .cells (encPg p))], 4⟩) (p.gain.length) ?_ ?_
  · exact ⟨_, Wk.nilown 3 1 2 4 rfl (Nat.le_of_ble_eq_true rfl) rfl, 0, by omega, rfl⟩
  · rintro m σ ⟨i, hi, rfl⟩ KL1 hKL1
    refine tr_seq fun K5 hK5 => ?_
    refine tr_region [4, 5, 13, 14, 15, 16] rfl rfl fun K hK => ?_
    refine evR_p ?_
    refine evR_e hK ?_; clear hK K
    refine hK5 _ ?_
    refine tr_seq fun K6 hK6 => ?_
    refine tr_condB (fun ht1 => ?_) (fun ht1 => ?_)
    · skip
      have hil : i < p.gain.length := by omega
      have hnl := negG_length p.gain i
      replace hq := And.intro hq (And.intro hil (hnl))
      refine tr_skip ?_
      (try simp only [thenE, inBlkE])
      refine hK6 _ ?_
      refine tr_seq fun K7 hK7 => ?_
      refine tr_block ?_
      refine tr_seq fun K8 hK8 => ?_
      refine tr_region [4, 5, 7, 13, 14, 15] rfl rfl fun K hK => ?_
      iterate 3 refine evR_p ?_
      refine evR_e hK ?_; clear hK K
      refine hK8 _ ?_
      refine tr_region [4, 5, 13, 14, 15] rfl rfl fun K hK => ?_
      iterate 4 refine evR_p ?_
      refine evR_bs ?_
      iterate 3 refine evR_p ?_
      refine evR_e hK ?_; clear hK K
      refine hK7 _ ?_
      refine tr_region [4, 5, 13, 14, 15] rfl rfl fun K hK => ?_
      iterate 2 refine evR_p ?_
      refine evR_e hK ?_; clear hK K
      refine hKL1 _ ?_
      exact ⟨m - 1, _, by omega, (Wk.trans (Wk.ren 4 3 (Nat.le_of_ble_eq_true rfl) (Nat.le_of_ble_eq_true rfl) rfl) (Wk.cut 4 rfl)), i + 1, by omega, by rw [w64 (x := (i : Int) + 1) (by omega), negG_succ hil, encI_snoc]; rfl⟩
    · skip
      have hil : i = p.gain.length := by omega
      subst hil
      refine tr_exit ?_
      simp only [thenE, inBlkE, Nat.reduceEqDiff, ↓reduceIte]
      refine hK3 _ ?_
      refine tr_seq fun K9 hK9 => ?_
      refine tr_region [4] rfl rfl fun K hK => ?_
      iterate 2 refine evR_p ?_
      refine evR_e hK ?_; clear hK K
      refine hK9 _ ?_
      refine tr_ret ?_
      (try simp only [thenE, inBlkE])
      simp (maxSteps := 4000000) (disch := first | assumption | omega | (simp only [go_sem, *]; done) | (simp only [go_sem, *]; omega)) only [postA, postO, resV1, fzAll, go_sem, hq, Int.reduceToNat, Nat.reduceBEq, Nat.reduceEqDiff, Nat.reduceAdd, Nat.reduceMul, Nat.reduceLeDiff, Nat.reduceLT, Nat.reduceSub, ↓reduceIte, reduceCtorEq]
      all_goals (rfl)

theorem c36  : CallsA Try.prog 36 [] (.agg (encPg exP)) := by
  have hq : True := trivial
  refine callsA_of_tr Try.func36 rfl (Nat.le_of_ble_eq_true rfl) ?_
  simp only [Try.results36, envOf, Nat.reduceAdd]
  refine tr_seq fun K1 hK1 => ?_
  refine tr_region [0] rfl rfl fun K hK => ?_
  refine evR_p ?_
  refine evR_e hK ?_; clear hK K
  refine hK1 _ ?_
  refine tr_seq fun K2 hK2 => ?_
  refine tr_region [0] rfl rfl fun K hK => ?_
  refine evR_bs ?_
  refine evR_p ?_
  refine evR_bs ?_
  refine evR_p ?_
  iterate 2 refine evR_bs ?_
  iterate 2 refine evR_p ?_
  refine evR_e hK ?_; clear hK K
  refine hK2 _ ?_
  refine tr_ret ?_
  (try simp only [thenE, inBlkE])
  simp (maxSteps := 4000000) (disch := first | assumption | omega | (simp only [go_sem, *]; done) | (simp only [go_sem, *]; omega)) only [postA, postO, resV1, fzAll, go_sem, hq, Int.reduceToNat, Nat.reduceBEq, Nat.reduceEqDiff, Nat.reduceAdd, Nat.reduceMul, Nat.reduceLeDiff, Nat.reduceLT, Nat.reduceSub, ↓reduceIte, reduceCtorEq]
  all_goals (rfl)

theorem c36c  : CallsA Try.prog 36 [] (.agg [.int .i64 3, .slc 6 (encR exP.rows), .sl 1 (encI exP.gain)]) := by
  have hq : True := trivial
  refine callsA_of_tr Try.func36 rfl (Nat.le_of_ble_eq_true rfl) ?_
  simp only [Try.results36, envOf, Nat.reduceAdd]
  refine tr_seq fun K1 hK1 => ?_
  refine tr_region [0] rfl rfl fun K hK => ?_
  refine evR_p ?_
  refine evR_e hK ?_; clear hK K
  refine hK1 _ ?_
  refine tr_seq fun K2 hK2 => ?_
  refine tr_region [0] rfl rfl fun K hK => ?_
  refine evR_bs ?_
  refine evR_p ?_
  refine evR_bs ?_
  refine evR_p ?_
  refine evR_bc ?_
  refine evR_bs ?_
  iterate 2 refine evR_p ?_
  refine evR_e hK ?_; clear hK K
  refine hK2 _ ?_
  refine tr_ret ?_
  (try simp only [thenE, inBlkE])
  simp (maxSteps := 4000000) (disch := first | assumption | omega | (simp only [go_sem, *]; done) | (simp only [go_sem, *]; omega)) only [postA, postO, resV1, fzAll, go_sem, hq, Int.reduceToNat, Nat.reduceBEq, Nat.reduceEqDiff, Nat.reduceAdd, Nat.reduceMul, Nat.reduceLeDiff, Nat.reduceLT, Nat.reduceSub, ↓reduceIte, reduceCtorEq]
  all_goals (rfl)

set_option maxHeartbeats 4000000 in
theorem c32 (a b : Pg) (ha : a.rows.length ≤ maxLen) (hb : b.rows.length ≤ maxLen) (hga : a.gain.length ≤ maxLen) (hgb : b.gain.length ≤ maxLen) (hca : ∀ r ∈ a.rows, r.coef.length ≤ maxLen) (hcb : ∀ r ∈ b.rows, r.coef.length ≤ maxLen) : CallsA Try.prog 32 [.agg (encPg a), .agg (encPg b)] (.bool (sameB a b)) := by
  have ha0 := ha
  have hb0 := hb
  unfold maxLen at ha0 hb0
  have hq : True := trivial
  refine callsA_of_tr Try.func32 rfl (Nat.le_of_ble_eq_true rfl) ?_
  simp only [Try.results32, envOf, Nat.reduceAdd]
  refine tr_seq fun K1 hK1 => ?_
  refine tr_region [2, 3] rfl rfl fun K hK => ?_
  iterate 3 refine evR_p ?_
  refine evR_e hK ?_; clear hK K
  refine hK1 _ ?_
  refine tr_seq fun K2 hK2 => ?_
  refine tr_seq fun K3 hK3 => ?_
  refine tr_region [2, 3, 29] rfl rfl fun K hK => ?_
  iterate 6 refine evR_p ?_
  iterate 7 refine evR_g ?_
  iterate 2 refine evR_p ?_
  iterate 4 refine evR_g ?_
  refine evR_gc (hc := (c19 _ _ hga hgb)) (k := ?_)
  refine evR_g ?_
  refine evR_p ?_
  refine evR_e hK ?_; clear hK K
  refine hK3 _ ?_
  refine tr_condB (fun ht1 => ?_) (fun ht1 => ?_)
  · skip
    refine tr_seq fun K4 hK4 => ?_
    refine tr_region [4] rfl rfl fun K hK => ?_
    refine evR_p ?_
    refine evR_e hK ?_; clear hK K
    refine hK4 _ ?_
    refine tr_ret ?_
    (try simp only [thenE, inBlkE])
    simp (maxSteps := 4000000) (disch := first | assumption | omega | (simp only [go_sem, *]; done) | (simp only [go_sem, *]; omega)) only [postA, postO, resV1, fzAll, go_sem, hq, Int.reduceToNat, Nat.reduceBEq, Nat.reduceEqDiff, Nat.reduceAdd, Nat.reduceMul, Nat.reduceLeDiff, Nat.reduceLT, Nat.reduceSub, ↓reduceIte, reduceCtorEq]
    all_goals ((first | (rcases ht1 with (h | h) | h <;> simp [sameB, h]; done) | (simp [sameB, sameTo_mono _ _ (sameRw_ne ht3) _ hil]; done) | (obtain ⟨⟨h1, h2⟩, h3⟩ := ht1; simp only [sameB, h1, h2, h3, hs, decide_true, Bool.and_self])))
  · skip
    refine tr_skip ?_
    (try simp only [thenE, inBlkE])
    refine hK2 _ ?_
    refine tr_seq fun K5 hK5 => ?_
    refine tr_seq fun K6 hK6 => ?_
    refine tr_region [2, 3, 5] rfl rfl fun K hK => ?_
    refine evR_p ?_
    refine evR_e hK ?_; clear hK K
    refine hK6 _ ?_
    refine tr_block ?_
    -- loop 1: live [2, 3, 5]
    refine tr_loopW (fun m σ => ∃ i, i + m = a.rows.length ∧ sameTo a.rows b.rows i = true ∧ σ = ⟨[(2, .ptr 0 0), (3, .ptr 1 0), (5, .int .i64 (i : Nat))], [(1, .cells (encPg b)), (0, .cells (encPg a))], 2⟩) (a.rows.length) ?_ ?_
    · exact ⟨_, Wk.refl _, 0, by omega, rfl, rfl⟩
    · rintro m σ ⟨i, hi, hs, rfl⟩ KL1 hKL1
      refine tr_seq fun K7 hK7 => ?_
      refine tr_seq fun K8 hK8 => ?_
      refine tr_region [2, 3, 5, 34] rfl rfl fun K hK => ?_
      iterate 5 refine evR_p ?_
      refine evR_e hK ?_; clear hK K
      refine hK8 _ ?_
      refine tr_condB (fun ht2 => ?_) (fun ht2 => ?_)
      · skip
        have hil : i < a.rows.length := by omega
        have hil2 : i < b.rows.length := by omega
        replace hq := And.intro hq (And.intro hil (hil2))
        refine tr_skip ?_
        (try simp only [thenE, inBlkE])
        refine hK7 _ ?_
        refine tr_seq fun K9 hK9 => ?_
        refine tr_block ?_
        refine tr_seq fun K10 hK10 => ?_
        refine tr_region [2, 3, 5, 6] rfl rfl fun K hK => ?_
        iterate 7 refine evR_p ?_
        refine evR_e hK ?_; clear hK K
        refine hK10 _ ?_
        refine tr_seq fun K11 hK11 => ?_
        refine tr_region [2, 3, 5, 6, 7] rfl rfl fun K hK => ?_
        iterate 7 refine evR_p ?_
        refine evR_e hK ?_; clear hK K
        refine hK11 _ ?_
        refine tr_seq fun K12 hK12 => ?_
        refine tr_region [2, 3, 5, 87] rfl rfl fun K hK => ?_
        iterate 6 refine evR_p ?_
        iterate 5 refine evR_g ?_
        iterate 2 refine evR_p ?_
        iterate 5 refine evR_g ?_
        iterate 2 refine evR_p ?_
        iterate 5 refine evR_g ?_
        iterate 2 refine evR_p ?_
        iterate 5 refine evR_g ?_
        iterate 2 refine evR_p ?_
        iterate 4 refine evR_g ?_
        refine evR_gc (hc := (c19 _ _ (hca _ (getD_mem hil)) (hcb _ (getD_mem hil2)))) (k := ?_)
        refine evR_g ?_
        refine evR_p ?_
        refine evR_e hK ?_; clear hK K
        refine hK12 _ ?_
        refine tr_condB (fun ht3 => ?_) (fun ht3 => ?_)
        · skip
          refine tr_seq fun K13 hK13 => ?_
          refine tr_region [4] rfl rfl fun K hK => ?_
          refine evR_p ?_
          refine evR_e hK ?_; clear hK K
          refine hK13 _ ?_
          refine tr_ret ?_
          (try simp only [thenE, inBlkE])
          simp (maxSteps := 4000000) (disch := first | assumption | omega | (simp only [go_sem, *]; done) | (simp only [go_sem, *]; omega)) only [postA, postO, resV1, fzAll, go_sem, hq, Int.reduceToNat, Nat.reduceBEq, Nat.reduceEqDiff, Nat.reduceAdd, Nat.reduceMul, Nat.reduceLeDiff, Nat.reduceLT, Nat.reduceSub, ↓reduceIte, reduceCtorEq]
          all_goals ((first | (rcases ht1 with (h | h) | h <;> simp [sameB, h]; done) | (simp [sameB, sameTo_mono _ _ (sameRw_ne ht3) _ hil]; done) | (obtain ⟨⟨h1, h2⟩, h3⟩ := ht1; simp only [sameB, h1, h2, h3, hs, decide_true, Bool.and_self])))
        · skip
          refine tr_skip ?_
          (try simp only [thenE, inBlkE])
          refine hK9 _ ?_
          refine tr_region [2, 3, 5] rfl rfl fun K hK => ?_
          iterate 3 refine evR_p ?_
          refine evR_e hK ?_; clear hK K
          refine hKL1 _ ?_
          obtain ⟨⟨⟨⟨⟨q1, q2⟩, q3⟩, q4⟩, q5⟩, q6⟩ := ht3
          exact ⟨m - 1, _, by omega, Wk.cut 2 rfl, i + 1, by omega, by simp only [sameTo, hs, sameRw, Bool.true_and, Bool.and_eq_true, decide_eq_true_eq]; exact ⟨q1, q2, q3, q4, q5, q6⟩, by rw [w64 (x := (i : Int) + 1) (by omega)]; rfl⟩
      · skip
        have hil : i = a.rows.length := by omega
        subst hil
        refine tr_exit ?_
        simp only [thenE, inBlkE, Nat.reduceEqDiff, ↓reduceIte]
        refine hK5 _ ?_
        refine tr_seq fun K14 hK14 => ?_
        refine tr_region [4] rfl rfl fun K hK => ?_
        refine evR_p ?_
        refine evR_e hK ?_; clear hK K
        refine hK14 _ ?_
        refine tr_ret ?_
        (try simp only [thenE, inBlkE])
        simp (maxSteps := 4000000) (disch := first | assumption | omega | (simp only [go_sem, *]; done) | (simp only [go_sem, *]; omega)) only [postA, postO, resV1, fzAll, go_sem, hq, Int.reduceToNat, Nat.reduceBEq, Nat.reduceEqDiff, Nat.reduceAdd, Nat.reduceMul, Nat.reduceLeDiff, Nat.reduceLT, Nat.reduceSub, ↓reduceIte, reduceCtorEq]
        all_goals ((first | (rcases ht1 with (h | h) | h <;> simp [sameB, h]; done) | (simp [sameB, sameTo_mono _ _ (sameRw_ne ht3) _ hil]; done) | (obtain ⟨⟨h1, h2⟩, h3⟩ := ht1; simp only [sameB, h1, h2, h3, hs, decide_true, Bool.and_self])))

end Go.Proofs.Ytcphhbiehaimeaa

