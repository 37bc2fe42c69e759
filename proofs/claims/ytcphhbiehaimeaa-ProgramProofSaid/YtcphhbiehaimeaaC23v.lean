import Derived.Test.YtcphhbiehaimeaaF23
import Derived.Test.YtcphhbiehaimeaaAi24
import Derived.Test.YtcphhbiehaimeaaP23
import Derived.Test.YtcphhbiehaimeaaPY23
import Derived.Test.YtcphhbiehaimeaaC23a
namespace Go.Proofs.Ytcphhbiehaimeaa
open Go.RowKit
set_option linter.unusedVariables false
set_option linter.unusedSimpArgs false
set_option maxRecDepth 100000
attribute [local go_sem] Nat.zero_add Nat.add_zero Nat.mul_one eq_self ne_eq not_true_eq_false not_false_eq_true decide_true decide_false decide_not Bool.false_eq_true List.filter_cons List.filter_nil true_and and_true beq_false beq_true Bool.not_true Bool.not_false Bool.and_true Bool.true_and Option.getD_some Option.getD_none imp_self implies_true Int.toNat_natCast List.cons_append List.nil_append List.map_cons List.map_nil List.length_cons List.length_nil List.getD_cons_zero List.getD_cons_succ List.drop_zero List.drop_succ_cons List.take_succ_cons List.take_zero
attribute [local go_sem] isE isO stpO notIn St.bare evO evDO isEff stp St.get St.slot St.put List.lookup un unL ofVal gof nth pickV pkB_false pkB_true binV unV loadV idxV fldV partV buildV fillV lenV sliV appV appR rowsV winV V.parts V.okp V.sc Mem.look_cons Mem.look_nil V.cl V.clL AObj.clo fzAll exps St.fz Mem.fz V.fz V.fzL AObj.fz Option.isSome_some Option.isSome_none Bool.or_true Bool.true_or Bool.or_false Bool.false_or false_and and_false false_or or_false arT_22 arT_23 arT_24 arT_27 arT_34 arT_35 arT_50 arT_59 arT_61 arT_64 arT_65 arT_68 boolT_24 boolT_3 boolT_38 boolT_4 boolT_79 flatT_24 flatT_3 flatT_38 flatT_4 flatT_79 intT_3 intT_93 lay_23 lay_24 lay_26 lay_27 lay_29 lay_3 lay_32 lay_35 lay_37 lay_4 lay_59 lay_68 lay_70 lay_79 lay_82 lay_88 okF_10 okF_11 okF_12 okF_13 okF_14 okF_15 okF_16 okF_17 okF_18 okF_19 okF_20 okF_21 okF_22 okF_23 okF_24 okF_25 okF_26 okF_27 okF_28 okF_29 okF_3 okF_30 okF_31 okF_32 okF_33 okF_34 okF_35 okF_36 okF_37 okF_38 okF_39 okF_4 okF_40 okF_41 okF_42 okF_43 okF_44 okF_45 okF_46 okF_47 okF_48 okF_49 okF_5 okF_50 okF_51 okF_52 okF_53 okF_54 okF_55 okF_56 okF_57 okF_58 okF_59 okF_6 okF_60 okF_61 okF_62 okF_63 okF_64 okF_65 okF_66 okF_67 okF_68 okF_69 okF_7 okF_70 okF_71 okF_72 okF_73 okF_74 okF_75 okF_8 okF_9 plT_26 plT_29 plT_37 plT_70 plT_79 slT_22 slT_23 slT_24 slT_27 slT_34 slT_35 slT_50 slT_59 slT_61 slT_64 slT_65 slT_68 stT_26_0 stT_26_1 stT_26_2 stT_26_3 stT_26_4 stT_26_5 stT_29_0 stT_29_1 stT_29_2 stT_37_0 stT_37_1 stT_37_2 stT_37_3 stT_70_0 stT_70_1 stT_70_2 stT_70_3 stT_79_0 stT_79_1 zeroT_24 zeroT_26 zeroT_29 zeroT_3 zeroT_32 zeroT_35 zeroT_37 zeroT_59 zeroT_65 zeroT_70 zeroT_79
attribute [local go_sem] List.getElem?_cons_zero List.getElem?_cons_succ List.zip_cons_cons List.zip_nil_left List.zip_nil_right Bool.false_and Bool.and_false List.length_append List.length_set List.length_replicate List.all_cons List.all_nil encI_length encI_getD encR_length encR_getD encRw encPg spl shp AObj.shp rowM isSt isRpS isRd csh AObj.csh forall_const imp_self
attribute [local simp] encI_length encR_length cellsI_length
section
attribute [local go_sem] encI_rep encI_set encI_getD
theorem c35 (p : Pg) (hg : p.gain.length ≤ 1000) (gn : Int) : CallsA Try.prog 35 [.agg (encPg p), .int .i64 gn] (.agg (encRw (goalR p gn))) := by
  have hq : True := trivial
  refine callsA_of_tr Try.func35 rfl (Nat.le_of_ble_eq_true rfl) ?_
  simp only [Try.results35, envOf, Nat.reduceAdd]
  refine tr_seq fun K1 hK1 => ?_
  refine tr_region [1, 2, 4] rfl rfl fun K hK => ?_
  iterate 2 refine evR_p ?_
  refine evR_e hK ?_; clear hK K
  refine hK1 _ ?_
  refine tr_seq fun K2 hK2 => ?_
  refine tr_region [2, 4, 5] rfl rfl fun K hK => ?_
  iterate 10 refine evR_p ?_
  refine evR_e hK ?_; clear hK K
  refine hK2 _ ?_
  refine tr_seq fun K3 hK3 => ?_
  refine tr_seq fun K4 hK4 => ?_
  refine tr_region [2, 4, 5, 6] rfl rfl fun K hK => ?_
  refine evR_p ?_
  refine evR_e hK ?_; clear hK K
  refine hK4 _ ?_
  refine tr_block ?_
  -- loop 1: live [2, 4, 5, 6]
  refine tr_loopW (fun m σ => ∃ i : Nat, i + m = p.gain.length ∧ σ = ⟨[(2, .ptr 0 0), (4, .ptr 1 0), (5, .ptr 3 0), (6, .int .i64 (i : Nat))], [(3, .cells [.int .i64 0, .int .i64 0, .int .i64 0, .int .i64 0, .own 2, .int .i64 (IntKind.i64.wrap (IntKind.i64.wrap (0 - gn) - 1))]), (2, .row 3 1 (encI (negP p.gain i))), (1, .cells [.int .i64 0, .int .i64 0, .int .i64 0, .int .i64 0, .nsl, .int .i64 0]), (0, .cells (encPg p))], 4⟩) (p.gain.length) ?_ ?_
  · exact ⟨_, Wk.refl _, 0, by omega, by rw [negP_0]; rfl⟩
  · rintro m σ ⟨i, hi, rfl⟩ KL1 hKL1
    have hnl : (negP p.gain i).length = p.gain.length := negP_length (by omega)
    refine tr_seq fun K5 hK5 => ?_
    refine tr_seq fun K6 hK6 => ?_
    refine tr_region [2, 4, 5, 6, 19] rfl rfl fun K hK => ?_
    iterate 5 refine evR_p ?_
    refine evR_e hK ?_; clear hK K
    refine hK6 _ ?_
    refine tr_condB (fun ht1 => ?_) (fun ht1 => ?_)
    · skip
      have hil : i < p.gain.length := by omega
      replace hq := And.intro hq (And.intro hil (hnl))
      refine tr_skip ?_
      (try simp only [thenE, inBlkE])
      refine hK5 _ ?_
      refine tr_seq fun K7 hK7 => ?_
      refine tr_block ?_
      refine tr_draw [] [2, 4, 5, 6] mixed rfl (by kernel_rfl) rfl fun K hK => ?_
      iterate 11 refine evD_p ?_
      refine evD_e hK ?_; clear hK K
      refine hK7 _ ?_
      refine tr_region [2, 4, 5, 6] rfl rfl fun K hK => ?_
      iterate 3 refine evR_p ?_
      refine evR_e hK ?_; clear hK K
      refine hKL1 _ ?_
      exact ⟨m - 1, _, by omega, Wk.refl _, i + 1, by omega, by rw [w64 (x := (i : Int) + 1) (by omega), negP_set hil]; rfl⟩
    · skip
      have hil : i = p.gain.length := by omega
      subst hil
      rw [negP_end]
      refine tr_exit ?_
      simp only [thenE, inBlkE, Nat.reduceEqDiff, ↓reduceIte]
      refine hK3 _ ?_
      refine tr_seq fun K8 hK8 => ?_
      refine tr_region [4] rfl rfl fun K hK => ?_
      iterate 2 refine evR_p ?_
      refine evR_e hK ?_; clear hK K
      refine hK8 _ ?_
      refine tr_ret ?_
      (try simp only [thenE, inBlkE])
      simp (maxSteps := 4000000) (disch := first | assumption | omega | (simp only [go_sem, *]; done) | (simp only [go_sem, *]; omega)) only [postA, postO, resV1, fzAll, go_sem, hq, Int.reduceToNat, Nat.reduceBEq, Nat.reduceEqDiff, Nat.reduceAdd, Nat.reduceMul, Nat.reduceLeDiff, Nat.reduceLT, Nat.reduceSub, ↓reduceIte, reduceCtorEq]
      all_goals (rfl)
end

section
attribute [local go_sem] encS_length encS_getD encSt encI_rep encI_set encI_getD
set_option maxHeartbeats 8000000 in
theorem c34a (rows2 : List Rw) (v : Nat) (hv : v ≤ 12) (hr : okRws rows2 v) (hmo : ∀ r ∈ rows2, okI r.most) (hrl : rows2.length ≤ 100000) (l : List Stp) (hll : l.length ≤ maxLen) (p : Nat) (h1 : p < l.length) (j : Nat) (h2 : l.getD p stp0 = ⟨-1, 0, 0, some (j : Nat)⟩) (h4 : j < rows2.length) (d s : Nat) : CallsA Try.prog 34 [.sl 6 (encR rows2), .sl 4 (encS l), .int .i64 (p : Nat), .sl 1 (encI (decL v d s))] (.bool (leafB rows2 v (j : Nat) d s)) := by
  unfold maxLen at hll
  have hdl := decL_length v d s
  obtain ⟨k1, k2⟩ := hr _ (getD_mem (d := rw0) h4)
  have hm := hmo _ (getD_mem (d := rw0) h4)
  unfold okI at hm
  have hw1 : IntKind.i64.wrap (0 + IntKind.i64.wrap (1 * (rows2.getD j rw0).most)) = (rows2.getD j rw0).most := by rw [Int.one_mul, w64 hm, Int.zero_add, w64 hm]
  have hw2 : ∀ k, IntKind.i64.wrap (0 + IntKind.i64.wrap (1 * (rows2.getD j rw0).coef.getD k 0)) = (rows2.getD j rw0).coef.getD k 0 := fun k => by have := coef_getD k2 k; rw [Int.one_mul, Int.zero_add, w64 (x := (rows2.getD j rw0).coef.getD k 0) (by omega), w64 (by omega)]
  have hq := And.intro h2 (And.intro hdl (And.intro hw1 (And.intro hw2 (k1))))
  refine callsA_of_tr Try.func34 rfl (Nat.le_of_ble_eq_true rfl) ?_
  simp only [Try.results34, envOf, Nat.reduceAdd]
  refine tr_seq fun K1 hK1 => ?_
  refine tr_region [0, 1, 2, 3] rfl rfl fun K hK => ?_
  refine evR_p ?_
  refine evR_e hK ?_; clear hK K
  refine hK1 _ ?_
  refine tr_seq fun K2 hK2 => ?_
  refine tr_seq fun K3 hK3 => ?_
  refine tr_region [0, 1, 2, 3, 26] rfl rfl fun K hK => ?_
  iterate 3 refine evR_p ?_
  iterate 4 refine evR_g ?_
  refine evR_p ?_
  refine evR_e hK ?_; clear hK K
  refine hK3 _ ?_
  refine tr_condB (fun ht1 => ?_) (fun ht1 => ?_)
  · skip
    (first | (exfalso; omega) | (exfalso; simp_all; done) | skip)
    all_goals
      refine tr_seq fun K4 hK4 => ?_
      refine tr_region [8] rfl rfl fun K hK => ?_
      refine evR_p ?_
      refine evR_e hK ?_; clear hK K
      refine hK4 _ ?_
      refine tr_ret ?_
      (try simp only [thenE, inBlkE])
      simp (maxSteps := 4000000) (disch := first | assumption | omega | (simp only [go_sem, *]; done) | (simp only [go_sem, *]; omega)) only [postA, postO, resV1, fzAll, go_sem, hq, Int.reduceToNat, Nat.reduceBEq, Nat.reduceEqDiff, Nat.reduceAdd, Nat.reduceMul, Nat.reduceLeDiff, Nat.reduceLT, Nat.reduceSub, ↓reduceIte, reduceCtorEq]
      all_goals (rfl)
  · skip
    (first | (exfalso; omega) | (exfalso; simp_all; done) | skip)
    all_goals
      refine tr_skip ?_
      (try simp only [thenE, inBlkE])
      refine hK2 _ ?_
      refine tr_seq fun K5 hK5 => ?_
      refine tr_region [0, 1, 2, 3, 9] rfl rfl fun K hK => ?_
      iterate 6 refine evR_p ?_
      refine evR_e hK ?_; clear hK K
      refine hK5 _ ?_
      refine tr_seq fun K6 hK6 => ?_
      refine tr_seq fun K7 hK7 => ?_
      refine tr_region [0, 1, 2, 3, 9, 33] rfl rfl fun K hK => ?_
      iterate 3 refine evR_p ?_
      refine evR_e hK ?_; clear hK K
      refine hK7 _ ?_
      refine tr_condB (fun ht2 => ?_) (fun ht2 => ?_)
      · skip
        (first | (exfalso; omega) | (exfalso; simp_all; done) | skip)
        all_goals
          refine tr_seq fun K8 hK8 => ?_
          refine tr_seq fun K9 hK9 => ?_
          refine tr_region [0, 3, 9, 53] rfl rfl fun K hK => ?_
          iterate 4 refine evR_p ?_
          iterate 3 refine evR_g ?_
          iterate 2 refine evR_p ?_
          iterate 4 refine evR_g ?_
          iterate 2 refine evR_p ?_
          iterate 4 refine evR_g ?_
          refine evR_p ?_
          refine evR_e hK ?_; clear hK K
          refine hK9 _ ?_
          refine tr_condB (fun ht3 => ?_) (fun ht3 => ?_)
          · skip
            (first | (exfalso; omega) | (exfalso; simp_all; done) | skip)
            all_goals
              refine tr_seq fun K10 hK10 => ?_
              refine tr_region [8] rfl rfl fun K hK => ?_
              refine evR_p ?_
              refine evR_e hK ?_; clear hK K
              refine hK10 _ ?_
              refine tr_ret ?_
              (try simp only [thenE, inBlkE])
              simp (maxSteps := 4000000) (disch := first | assumption | omega | (simp only [go_sem, *]; done) | (simp only [go_sem, *]; omega)) only [postA, postO, resV1, fzAll, go_sem, hq, Int.reduceToNat, Nat.reduceBEq, Nat.reduceEqDiff, Nat.reduceAdd, Nat.reduceMul, Nat.reduceLeDiff, Nat.reduceLT, Nat.reduceSub, ↓reduceIte, reduceCtorEq]
              all_goals (rfl)
          · skip
            (first | (exfalso; omega) | (exfalso; simp_all; done) | skip)
            all_goals
              refine tr_skip ?_
              (try simp only [thenE, inBlkE])
              refine hK8 _ ?_
              refine tr_seq fun K11 hK11 => ?_
              refine tr_region [0, 3, 9, 10] rfl rfl fun K hK => ?_
              refine evR_p ?_
              refine evR_e hK ?_; clear hK K
              refine hK11 _ ?_
              refine tr_seq fun K12 hK12 => ?_
              refine tr_region [0, 3, 9, 10, 11] rfl rfl fun K hK => ?_
              iterate 4 refine evR_p ?_
              refine evR_e hK ?_; clear hK K
              refine hK12 _ ?_
              refine tr_seq fun K13 hK13 => ?_
              refine tr_seq fun K14 hK14 => ?_
              refine tr_region [0, 3, 9, 10, 11, 12] rfl rfl fun K hK => ?_
              refine evR_p ?_
              refine evR_e hK ?_; clear hK K
              refine hK14 _ ?_
              refine tr_block ?_
              -- loop 1: live [0, 3, 9, 10, 11, 12]
              refine tr_loopW (fun m σ => (m = 1 ∧ σ = ⟨[(0, .sl 6 (encR rows2)), (3, .sl 1 (encI (decL v d s))), (9, .ptr 0 0), (10, .int .i64 0), (11, .own 1), (12, .int .i64 0)], [(1, .row 3 1 (encI (List.replicate v 0))), (0, .cells [.int .i64 (-1), .int .i64 0, .int .i64 0, .sl 2 [[.int .i64 (j : Nat), .int .i64 1]]])], 2⟩) ∨ (m = 0 ∧ σ = ⟨[(0, .sl 6 (encR rows2)), (3, .sl 1 (encI (decL v d s))), (9, .ptr 0 0), (10, .int .i64 (rows2.getD j rw0).most), (11, .own 1), (12, .int .i64 1)], [(1, .row 3 1 (encI (rows2.getD j rw0).coef)), (0, .cells [.int .i64 (-1), .int .i64 0, .int .i64 0, .sl 2 [[.int .i64 (j : Nat), .int .i64 1]]])], 2⟩)) (1) ?_ ?_
              · exact ⟨_, Wk.refl _, .inl ⟨rfl, rfl⟩⟩
              · rintro m σ (⟨rfl, rfl⟩ | ⟨rfl, rfl⟩) KL1 hKL1
                all_goals
                  refine tr_seq fun K15 hK15 => ?_
                  refine tr_seq fun K16 hK16 => ?_
                  refine tr_region [0, 3, 9, 10, 11, 12, 61] rfl rfl fun K hK => ?_
                  iterate 5 refine evR_p ?_
                  refine evR_e hK ?_; clear hK K
                  refine hK16 _ ?_
                  refine tr_condB (fun ht4 => ?_) (fun ht4 => ?_)
                  · skip
                    (first | (exfalso; omega) | (exfalso; simp_all; done) | skip)
                    all_goals
                      refine tr_skip ?_
                      (try simp only [thenE, inBlkE])
                      refine hK15 _ ?_
                      refine tr_seq fun K17 hK17 => ?_
                      refine tr_block ?_
                      refine tr_seq fun K18 hK18 => ?_
                      refine tr_region [0, 3, 9, 10, 11, 12, 13] rfl rfl fun K hK => ?_
                      iterate 7 refine evR_p ?_
                      refine evR_e hK ?_; clear hK K
                      refine hK18 _ ?_
                      refine tr_seq fun K19 hK19 => ?_
                      refine tr_seq fun K20 hK20 => ?_
                      refine tr_draw [] [0, 3, 9, 10, 11, 12, 13, 104] mixed rfl (by kernel_rfl) rfl fun K hK => ?_
                      iterate 4 refine evD_p ?_
                      iterate 5 refine evD_g ?_
                      iterate 2 refine evD_p ?_
                      iterate 3 refine evD_g ?_
                      iterate 2 refine evD_p ?_
                      iterate 3 refine evD_g ?_
                      iterate 2 refine evD_p ?_
                      iterate 3 refine evD_g ?_
                      iterate 10 refine evD_gf (.bool false) ?_
                      refine evD_g ?_
                      refine evD_p ?_
                      refine evD_e hK ?_; clear hK K
                      refine hK20 _ ?_
                      refine tr_condB (fun ht5 => ?_) (fun ht5 => ?_)
                      · skip
                        (first | (exfalso; omega) | (exfalso; simp_all; done) | skip)
                        all_goals
                          refine tr_seq fun K21 hK21 => ?_
                          refine tr_region [8] rfl rfl fun K hK => ?_
                          refine evR_p ?_
                          refine evR_e hK ?_; clear hK K
                          refine hK21 _ ?_
                          refine tr_ret ?_
                          (try simp only [thenE, inBlkE])
                          simp (maxSteps := 4000000) (disch := first | assumption | omega | (simp only [go_sem, *]; done) | (simp only [go_sem, *]; omega)) only [postA, postO, resV1, fzAll, go_sem, hq, Int.reduceToNat, Nat.reduceBEq, Nat.reduceEqDiff, Nat.reduceAdd, Nat.reduceMul, Nat.reduceLeDiff, Nat.reduceLT, Nat.reduceSub, ↓reduceIte, reduceCtorEq]
                          all_goals (rfl)
                      · skip
                        (first | (exfalso; omega) | (exfalso; simp_all; done) | skip)
                        all_goals
                          refine tr_skip ?_
                          (try simp only [thenE, inBlkE])
                          refine hK19 _ ?_
                          refine tr_seq fun K22 hK22 => ?_
                          refine tr_draw [] [0, 3, 9, 10, 11, 12, 13] mixed rfl (by kernel_rfl) rfl fun K hK => ?_
                          iterate 12 refine evD_p ?_
                          refine evD_e hK ?_; clear hK K
                          refine hK22 _ ?_
                          refine tr_seq fun K23 hK23 => ?_
                          refine tr_region [0, 3, 9, 10, 11, 12, 13, 14] rfl rfl fun K hK => ?_
                          refine evR_p ?_
                          refine evR_e hK ?_; clear hK K
                          refine hK23 _ ?_
                          refine tr_block ?_
                          -- loop 2: live [0, 3, 9, 10, 11, 12, 13, 14]
                          refine tr_loopW (fun m σ => ∃ k : Nat, k + m = v ∧ σ = ⟨[(0, .sl 6 (encR rows2)), (3, .sl 1 (encI (decL v d s))), (9, .ptr 0 0), (10, .int .i64 (rows2.getD j rw0).most), (11, .own 1), (12, .int .i64 0), (13, .ptr 2 0), (14, .int .i64 (k : Nat))], [(2, .cells [.int .i64 (j : Nat), .int .i64 1]), (1, .row 3 1 (encI (sumP (rows2.getD j rw0).coef v k))), (0, .cells [.int .i64 (-1), .int .i64 0, .int .i64 0, .sl 2 [[.int .i64 (j : Nat), .int .i64 1]]])], 3⟩) (v) ?_ ?_
                          · exact ⟨_, Wk.refl _, 0, by omega, by rw [sumP_0]; rfl⟩
                          · rintro m2 σ ⟨k, hk, rfl⟩ KL2 hKL2
                            have hsl : (sumP (rows2.getD j rw0).coef v k).length = v := sumP_length (by omega)
                            refine tr_seq fun K24 hK24 => ?_
                            refine tr_seq fun K25 hK25 => ?_
                            refine tr_region [0, 3, 9, 10, 11, 12, 13, 14, 119] rfl rfl fun K hK => ?_
                            iterate 4 refine evR_p ?_
                            refine evR_e hK ?_; clear hK K
                            refine hK25 _ ?_
                            refine tr_condB (fun ht6 => ?_) (fun ht6 => ?_)
                            · skip
                              (first | (exfalso; omega) | (exfalso; simp_all; done) | skip)
                              all_goals
                                have hkl : k < v := by omega
                                have hsa := sumP_at (c := (rows2.getD j rw0).coef) hkl
                                replace hq := And.intro hq (And.intro hkl (And.intro hsl (hsa)))
                                refine tr_skip ?_
                                (try simp only [thenE, inBlkE])
                                refine hK24 _ ?_
                                refine tr_seq fun K26 hK26 => ?_
                                refine tr_block ?_
                                refine tr_draw [] [0, 3, 9, 10, 11, 12, 13, 14] mixed rfl (by kernel_rfl) rfl fun K hK => ?_
                                iterate 21 refine evD_p ?_
                                refine evD_e hK ?_; clear hK K
                                refine hK26 _ ?_
                                refine tr_region [0, 3, 9, 10, 11, 12, 13, 14] rfl rfl fun K hK => ?_
                                iterate 3 refine evR_p ?_
                                refine evR_e hK ?_; clear hK K
                                refine hKL2 _ ?_
                                exact ⟨m2 - 1, _, by omega, Wk.refl _, k + 1, by omega, by rw [w64 (x := (k : Int) + 1) (by omega), sumP_set hkl]; rfl⟩
                            · skip
                              (first | (exfalso; omega) | (exfalso; simp_all; done) | skip)
                              all_goals
                                have hkl : v = k := by omega
                                subst hkl
                                refine tr_exit ?_
                                simp only [thenE, inBlkE, Nat.reduceEqDiff, ↓reduceIte]
                                refine hK17 _ ?_
                                refine tr_region [0, 3, 9, 10, 11, 12] rfl rfl fun K hK => ?_
                                iterate 3 refine evR_p ?_
                                refine evR_e hK ?_; clear hK K
                                refine hKL1 _ ?_
                                exact ⟨0, _, by omega, Wk.cut 2 rfl, .inr ⟨rfl, by rw [sumP_end k1]; rfl⟩⟩
                  · skip
                    (first | (exfalso; omega) | (exfalso; simp_all; done) | skip)
                    all_goals
                      refine tr_exit ?_
                      simp only [thenE, inBlkE, Nat.reduceEqDiff, ↓reduceIte]
                      refine hK13 _ ?_
                      refine tr_seq fun K27 hK27 => ?_
                      refine tr_region [3, 10, 11, 15] rfl rfl fun K hK => ?_
                      refine evR_p ?_
                      refine evR_e hK ?_; clear hK K
                      refine hK27 _ ?_
                      refine tr_seq fun K28 hK28 => ?_
                      refine tr_seq fun K29 hK29 => ?_
                      refine tr_region [3, 10, 11, 15, 16] rfl rfl fun K hK => ?_
                      refine evR_p ?_
                      refine evR_e hK ?_; clear hK K
                      refine hK29 _ ?_
                      refine tr_block ?_
                      -- loop 3: live [3, 10, 11, 15, 16]
                      refine tr_loopW (fun m σ => ∃ k : Nat, k + m = v ∧ σ = ⟨[(3, .sl 1 (encI (decL v d s))), (10, .int .i64 (rows2.getD j rw0).most), (11, .own 1), (15, .int .i64 (lfG (rows2.getD j rw0).coef (decL v d s) k)), (16, .int .i64 (k : Nat))], [(1, .row 3 1 (encI (rows2.getD j rw0).coef)), (0, .cells [.int .i64 (-1), .int .i64 0, .int .i64 0, .sl 2 [[.int .i64 (j : Nat), .int .i64 1]]])], 2⟩) (v) ?_ ?_
                      · exact ⟨_, Wk.refl _, 0, by omega, rfl⟩
                      · rintro m3 σ ⟨k, hk, rfl⟩ KL3 hKL3
                        refine tr_seq fun K30 hK30 => ?_
                        refine tr_seq fun K31 hK31 => ?_
                        refine tr_region [3, 10, 11, 15, 16, 145] rfl rfl fun K hK => ?_
                        iterate 4 refine evR_p ?_
                        refine evR_e hK ?_; clear hK K
                        refine hK31 _ ?_
                        refine tr_condB (fun ht7 => ?_) (fun ht7 => ?_)
                        · skip
                          (first | (exfalso; omega) | (exfalso; simp_all; done) | skip)
                          all_goals
                            have hkl : k < v := by omega
                            replace hq := And.intro hq (hkl)
                            refine tr_skip ?_
                            (try simp only [thenE, inBlkE])
                            refine hK30 _ ?_
                            refine tr_seq fun K32 hK32 => ?_
                            refine tr_block ?_
                            refine tr_seq fun K33 hK33 => ?_
                            refine tr_region [3, 10, 11, 15, 16, 166] rfl rfl fun K hK => ?_
                            iterate 6 refine evR_p ?_
                            iterate 12 refine evR_g ?_
                            refine evR_p ?_
                            refine evR_e hK ?_; clear hK K
                            refine hK33 _ ?_
                            refine tr_condB (fun ht8 => ?_) (fun ht8 => ?_)
                            · skip
                              (first | (exfalso; omega) | (exfalso; simp_all; done) | skip)
                              all_goals
                                refine tr_region [3, 10, 11, 15, 16] rfl rfl fun K hK => ?_
                                iterate 7 refine evR_p ?_
                                refine evR_e hK ?_; clear hK K
                                refine hK32 _ ?_
                                refine tr_region [3, 10, 11, 15, 16] rfl rfl fun K hK => ?_
                                iterate 3 refine evR_p ?_
                                refine evR_e hK ?_; clear hK K
                                refine hKL3 _ ?_
                                first
                                  | exact ⟨m3 - 1, _, by omega, Wk.refl _, k + 1, by omega, by rw [w64 (x := (k : Int) + 1) (by omega), lfG_t (by assumption)]; rfl⟩
                                  | exact ⟨m3 - 1, _, by omega, Wk.refl _, k + 1, by omega, by rw [w64 (x := (k : Int) + 1) (by omega), lfG_f (by assumption)]; rfl⟩
                            · skip
                              (first | (exfalso; omega) | (exfalso; simp_all; done) | skip)
                              all_goals
                                refine tr_skip ?_
                                (try simp only [thenE, inBlkE])
                                refine hK32 _ ?_
                                refine tr_region [3, 10, 11, 15, 16] rfl rfl fun K hK => ?_
                                iterate 3 refine evR_p ?_
                                refine evR_e hK ?_; clear hK K
                                refine hKL3 _ ?_
                                first
                                  | exact ⟨m3 - 1, _, by omega, Wk.refl _, k + 1, by omega, by rw [w64 (x := (k : Int) + 1) (by omega), lfG_t (by assumption)]; rfl⟩
                                  | exact ⟨m3 - 1, _, by omega, Wk.refl _, k + 1, by omega, by rw [w64 (x := (k : Int) + 1) (by omega), lfG_f (by assumption)]; rfl⟩
                        · skip
                          (first | (exfalso; omega) | (exfalso; simp_all; done) | skip)
                          all_goals
                            have hkl : v = k := by omega
                            subst hkl
                            refine tr_exit ?_
                            simp only [thenE, inBlkE, Nat.reduceEqDiff, ↓reduceIte]
                            refine hK28 _ ?_
                            refine tr_seq fun K34 hK34 => ?_
                            refine tr_region [8] rfl rfl fun K hK => ?_
                            iterate 4 refine evR_p ?_
                            refine evR_e hK ?_; clear hK K
                            refine hK34 _ ?_
                            refine tr_ret ?_
                            (try simp only [thenE, inBlkE])
                            simp (maxSteps := 4000000) (disch := first | assumption | omega | (simp only [go_sem, *]; done) | (simp only [go_sem, *]; omega)) only [postA, postO, resV1, fzAll, go_sem, hq, Int.reduceToNat, Nat.reduceBEq, Nat.reduceEqDiff, Nat.reduceAdd, Nat.reduceMul, Nat.reduceLeDiff, Nat.reduceLT, Nat.reduceSub, ↓reduceIte, reduceCtorEq]
                            all_goals (rfl)
      · skip
        (first | (exfalso; omega) | (exfalso; simp_all; done) | skip)
        all_goals
          refine tr_skip ?_
          (try simp only [thenE, inBlkE])
          refine hK6 _ ?_
          refine tr_seq fun K35 hK35 => ?_
          refine tr_seq fun K36 hK36 => ?_
          refine tr_region [0, 1, 3, 9, 203] rfl rfl fun K hK => ?_
          iterate 4 refine evR_p ?_
          iterate 5 refine evR_g ?_
          iterate 2 refine evR_p ?_
          iterate 4 refine evR_g ?_
          iterate 2 refine evR_p ?_
          iterate 4 refine evR_g ?_
          iterate 2 refine evR_p ?_
          iterate 4 refine evR_g ?_
          refine evR_p ?_
          refine evR_e hK ?_; clear hK K
          refine hK36 _ ?_
          refine tr_condB (fun ht9 => ?_) (fun ht9 => ?_)
          · skip
            (first | (exfalso; omega) | (exfalso; simp_all; done) | skip)
            all_goals
              refine tr_seq fun K37 hK37 => ?_
              refine tr_region [8] rfl rfl fun K hK => ?_
              refine evR_p ?_
              refine evR_e hK ?_; clear hK K
              refine hK37 _ ?_
              refine tr_ret ?_
              (try simp only [thenE, inBlkE])
              simp (maxSteps := 4000000) (disch := first | assumption | omega | (simp only [go_sem, *]; done) | (simp only [go_sem, *]; omega)) only [postA, postO, resV1, fzAll, go_sem, hq, Int.reduceToNat, Nat.reduceBEq, Nat.reduceEqDiff, Nat.reduceAdd, Nat.reduceMul, Nat.reduceLeDiff, Nat.reduceLT, Nat.reduceSub, ↓reduceIte, reduceCtorEq]
              all_goals (rfl)
          · skip
            (first | (exfalso; omega) | (exfalso; simp_all; done) | skip)
            all_goals
              refine tr_skip ?_
              (try simp only [thenE, inBlkE])
              refine hK35 _ ?_
              refine tr_seq fun K38 hK38 => ?_
              refine tr_seq fun K39 hK39 => ?_
              refine tr_region [0, 1, 3, 9, 209] rfl rfl fun K hK => ?_
              iterate 6 refine evR_p ?_
              refine evR_e hK ?_; clear hK K
              refine hK39 _ ?_
              refine tr_condB (fun ht10 => ?_) (fun ht10 => ?_)
              · skip
                (first | (exfalso; omega) | (exfalso; simp_all; done) | skip)
                all_goals
                  refine tr_seq fun K40 hK40 => ?_
                  refine tr_region [8] rfl rfl fun K hK => ?_
                  refine evR_p ?_
                  refine evR_e hK ?_; clear hK K
                  refine hK40 _ ?_
                  refine tr_ret ?_
                  (try simp only [thenE, inBlkE])
                  simp (maxSteps := 4000000) (disch := first | assumption | omega | (simp only [go_sem, *]; done) | (simp only [go_sem, *]; omega)) only [postA, postO, resV1, fzAll, go_sem, hq, Int.reduceToNat, Nat.reduceBEq, Nat.reduceEqDiff, Nat.reduceAdd, Nat.reduceMul, Nat.reduceLeDiff, Nat.reduceLT, Nat.reduceSub, ↓reduceIte, reduceCtorEq]
                  all_goals (rfl)
              · skip
                (first | (exfalso; omega) | (exfalso; simp_all; done) | skip)
                all_goals
                  refine tr_skip ?_
                  (try simp only [thenE, inBlkE])
                  refine hK38 _ ?_
                  refine tr_seq fun K41 hK41 => ?_
                  refine tr_region [0, 1, 3, 9, 17] rfl rfl fun K hK => ?_
                  refine evR_bo ?_
                  iterate 3 refine evR_p ?_
                  refine evR_e hK ?_; clear hK K
                  refine hK41 _ ?_
                  refine tr_seq fun K42 hK42 => ?_
                  refine tr_region [0, 1, 3, 9, 17] rfl rfl fun K hK => ?_
                  iterate 5 refine evR_p ?_
                  refine evR_e hK ?_; clear hK K
                  refine hK42 _ ?_
                  refine tr_seq fun K43 hK43 => ?_
                  refine tr_region [0, 1, 9, 17, 18] rfl rfl fun K hK => ?_
                  refine evR_bo ?_
                  iterate 3 refine evR_p ?_
                  refine evR_e hK ?_; clear hK K
                  refine hK43 _ ?_
                  refine tr_seq fun K44 hK44 => ?_
                  refine tr_region [0, 1, 9, 17, 18] rfl rfl fun K hK => ?_
                  iterate 5 refine evR_p ?_
                  refine evR_e hK ?_; clear hK K
                  refine hK44 _ ?_
                  refine tr_seq fun K45 hK45 => ?_
                  refine tr_region [8] rfl rfl fun K hK => ?_
                  iterate 5 refine evR_p ?_
                  refine evR_c (hc := c34) (k := ?_)
                  refine evR_p ?_
                  iterate 5 refine evR_g ?_
                  refine evR_gc (hc := c34) (k := ?_)
                  iterate 2 refine evR_p ?_
                  refine evR_e hK ?_; clear hK K
                  refine hK45 _ ?_
                  refine tr_ret ?_
                  (try simp only [thenE, inBlkE])
                  simp (maxSteps := 4000000) (disch := first | assumption | omega | (simp only [go_sem, *]; done) | (simp only [go_sem, *]; omega)) only [postA, postO, resV1, fzAll, go_sem, hq, Int.reduceToNat, Nat.reduceBEq, Nat.reduceEqDiff, Nat.reduceAdd, Nat.reduceMul, Nat.reduceLeDiff, Nat.reduceLT, Nat.reduceSub, ↓reduceIte, reduceCtorEq]
                  all_goals (rfl)
end

section
attribute [local go_sem] encS_length encS_getD encSt encI_set encI_getD List.replicate_zero
set_option maxHeartbeats 8000000 in
theorem c34b (rows2 : List Rw) (l : List Stp) (hll : l.length ≤ maxLen) (p : Nat) (h1 : p < l.length) (dd no yes : Nat) (h2 : l.getD p stp0 = ⟨(dd : Nat), (no : Nat), (yes : Nat), none⟩) (hno : p < no) (hyes : p < yes) (dec : List Int) (hdl : dec.length ≤ 1000) (hdd : dd < dec.length) (hdn : dec.getD dd 0 < 0) (b1 b2 : Bool) (g1 : CallsA Try.prog 34 [.sl 6 (encR rows2), .sl 4 (encS l), .int .i64 (no : Nat), .sl 1 (encI (dec.set dd 0))] (.bool b1)) (g2 : CallsA Try.prog 34 [.sl 6 (encR rows2), .sl 4 (encS l), .int .i64 (yes : Nat), .sl 1 (encI (dec.set dd 1))] (.bool b2)) : CallsA Try.prog 34 [.sl 6 (encR rows2), .sl 4 (encS l), .int .i64 (p : Nat), .sl 1 (encI dec)] (.bool (b1 && b2)) := by
  unfold maxLen at hll
  have hq := h2
  refine callsA_of_tr Try.func34 rfl (Nat.le_of_ble_eq_true rfl) ?_
  simp only [Try.results34, envOf, Nat.reduceAdd]
  refine tr_seq fun K1 hK1 => ?_
  refine tr_region [0, 1, 2, 3] rfl rfl fun K hK => ?_
  refine evR_p ?_
  refine evR_e hK ?_; clear hK K
  refine hK1 _ ?_
  refine tr_seq fun K2 hK2 => ?_
  refine tr_seq fun K3 hK3 => ?_
  refine tr_region [0, 1, 2, 3, 26] rfl rfl fun K hK => ?_
  iterate 3 refine evR_p ?_
  iterate 4 refine evR_g ?_
  refine evR_p ?_
  refine evR_e hK ?_; clear hK K
  refine hK3 _ ?_
  refine tr_condB (fun ht1 => ?_) (fun ht1 => ?_)
  · skip
    (first | (exfalso; omega) | (exfalso; simp_all; done) | skip)
    all_goals
      refine tr_seq fun K4 hK4 => ?_
      refine tr_region [8] rfl rfl fun K hK => ?_
      refine evR_p ?_
      refine evR_e hK ?_; clear hK K
      refine hK4 _ ?_
      refine tr_ret ?_
      (try simp only [thenE, inBlkE])
      simp (maxSteps := 4000000) (disch := first | assumption | omega | (simp only [go_sem, *]; done) | (simp only [go_sem, *]; omega)) only [postA, postO, resV1, fzAll, go_sem, hq, Int.reduceToNat, Nat.reduceBEq, Nat.reduceEqDiff, Nat.reduceAdd, Nat.reduceMul, Nat.reduceLeDiff, Nat.reduceLT, Nat.reduceSub, ↓reduceIte, reduceCtorEq]
      all_goals (rfl)
  · skip
    (first | (exfalso; omega) | (exfalso; simp_all; done) | skip)
    all_goals
      refine tr_skip ?_
      (try simp only [thenE, inBlkE])
      refine hK2 _ ?_
      refine tr_seq fun K5 hK5 => ?_
      refine tr_region [0, 1, 2, 3, 9] rfl rfl fun K hK => ?_
      iterate 6 refine evR_p ?_
      refine evR_e hK ?_; clear hK K
      refine hK5 _ ?_
      refine tr_seq fun K6 hK6 => ?_
      refine tr_seq fun K7 hK7 => ?_
      refine tr_region [0, 1, 2, 3, 9, 33] rfl rfl fun K hK => ?_
      iterate 3 refine evR_p ?_
      refine evR_e hK ?_; clear hK K
      refine hK7 _ ?_
      refine tr_condB (fun ht2 => ?_) (fun ht2 => ?_)
      · skip
        (first | (exfalso; omega) | (exfalso; simp_all; done) | skip)
        all_goals
          refine tr_seq fun K8 hK8 => ?_
          refine tr_seq fun K9 hK9 => ?_
          refine tr_region [0, 3, 9, 53] rfl rfl fun K hK => ?_
          iterate 4 refine evR_p ?_
          iterate 3 refine evR_g ?_
          iterate 2 refine evR_p ?_
          iterate 4 refine evR_g ?_
          iterate 2 refine evR_p ?_
          iterate 4 refine evR_g ?_
          refine evR_p ?_
          refine evR_e hK ?_; clear hK K
          refine hK9 _ ?_
          refine tr_condB (fun ht3 => ?_) (fun ht3 => ?_)
          · skip
            (first | (exfalso; omega) | (exfalso; simp_all; done) | skip)
            all_goals
              refine tr_seq fun K10 hK10 => ?_
              refine tr_region [8] rfl rfl fun K hK => ?_
              refine evR_p ?_
              refine evR_e hK ?_; clear hK K
              refine hK10 _ ?_
              refine tr_ret ?_
              (try simp only [thenE, inBlkE])
              simp (maxSteps := 4000000) (disch := first | assumption | omega | (simp only [go_sem, *]; done) | (simp only [go_sem, *]; omega)) only [postA, postO, resV1, fzAll, go_sem, hq, Int.reduceToNat, Nat.reduceBEq, Nat.reduceEqDiff, Nat.reduceAdd, Nat.reduceMul, Nat.reduceLeDiff, Nat.reduceLT, Nat.reduceSub, ↓reduceIte, reduceCtorEq]
              all_goals (rfl)
          · skip
            (first | (exfalso; omega) | (exfalso; simp_all; done) | skip)
            all_goals
              refine tr_skip ?_
              (try simp only [thenE, inBlkE])
              refine hK8 _ ?_
              refine tr_seq fun K11 hK11 => ?_
              refine tr_region [0, 3, 9, 10] rfl rfl fun K hK => ?_
              refine evR_p ?_
              refine evR_e hK ?_; clear hK K
              refine hK11 _ ?_
              refine tr_seq fun K12 hK12 => ?_
              refine tr_region [0, 3, 9, 10, 11] rfl rfl fun K hK => ?_
              iterate 4 refine evR_p ?_
              refine evR_e hK ?_; clear hK K
              refine hK12 _ ?_
              refine tr_seq fun K13 hK13 => ?_
              refine tr_seq fun K14 hK14 => ?_
              refine tr_region [0, 3, 9, 10, 11, 12] rfl rfl fun K hK => ?_
              refine evR_p ?_
              refine evR_e hK ?_; clear hK K
              refine hK14 _ ?_
              refine tr_block ?_
              -- loop 1: live [0, 3, 9, 10, 11, 12]
              refine tr_loopW (fun m σ => (m = 1 ∧ σ = ⟨[(0, .sl 6 (encR rows2)), (3, .sl 1 (encI (decL v d s))), (9, .ptr 0 0), (10, .int .i64 0), (11, .own 1), (12, .int .i64 0)], [(1, .row 3 1 (encI (List.replicate v 0))), (0, .cells [.int .i64 (-1), .int .i64 0, .int .i64 0, .sl 2 [[.int .i64 (j : Nat), .int .i64 1]]])], 2⟩) ∨ (m = 0 ∧ σ = ⟨[(0, .sl 6 (encR rows2)), (3, .sl 1 (encI (decL v d s))), (9, .ptr 0 0), (10, .int .i64 (rows2.getD j rw0).most), (11, .own 1), (12, .int .i64 1)], [(1, .row 3 1 (encI (rows2.getD j rw0).coef)), (0, .cells [.int .i64 (-1), .int .i64 0, .int .i64 0, .sl 2 [[.int .i64 (j : Nat), .int .i64 1]]])], 2⟩)) (1) ?_ ?_
              · exact ⟨_, Wk.refl _, .inl ⟨rfl, rfl⟩⟩
              · rintro m σ (⟨rfl, rfl⟩ | ⟨rfl, rfl⟩) KL1 hKL1
                all_goals
                  refine tr_seq fun K15 hK15 => ?_
                  refine tr_seq fun K16 hK16 => ?_
                  refine tr_region [0, 3, 9, 10, 11, 12, 61] rfl rfl fun K hK => ?_
                  iterate 5 refine evR_p ?_
                  refine evR_e hK ?_; clear hK K
                  refine hK16 _ ?_
                  refine tr_condB (fun ht4 => ?_) (fun ht4 => ?_)
                  · skip
                    (first | (exfalso; omega) | (exfalso; simp_all; done) | skip)
                    all_goals
                      refine tr_skip ?_
                      (try simp only [thenE, inBlkE])
                      refine hK15 _ ?_
                      refine tr_seq fun K17 hK17 => ?_
                      refine tr_block ?_
                      refine tr_seq fun K18 hK18 => ?_
                      refine tr_region [0, 3, 9, 10, 11, 12, 13] rfl rfl fun K hK => ?_
                      iterate 7 refine evR_p ?_
                      refine evR_e hK ?_; clear hK K
                      refine hK18 _ ?_
                      refine tr_seq fun K19 hK19 => ?_
                      refine tr_seq fun K20 hK20 => ?_
                      refine tr_draw [] [0, 3, 9, 10, 11, 12, 13, 104] mixed rfl (by kernel_rfl) rfl fun K hK => ?_
                      iterate 4 refine evD_p ?_
                      iterate 5 refine evD_g ?_
                      iterate 2 refine evD_p ?_
                      iterate 3 refine evD_g ?_
                      iterate 2 refine evD_p ?_
                      iterate 3 refine evD_g ?_
                      iterate 2 refine evD_p ?_
                      iterate 3 refine evD_g ?_
                      iterate 10 refine evD_gf (.bool false) ?_
                      refine evD_g ?_
                      refine evD_p ?_
                      refine evD_e hK ?_; clear hK K
                      refine hK20 _ ?_
                      refine tr_condB (fun ht5 => ?_) (fun ht5 => ?_)
                      · skip
                        (first | (exfalso; omega) | (exfalso; simp_all; done) | skip)
                        all_goals
                          refine tr_seq fun K21 hK21 => ?_
                          refine tr_region [8] rfl rfl fun K hK => ?_
                          refine evR_p ?_
                          refine evR_e hK ?_; clear hK K
                          refine hK21 _ ?_
                          refine tr_ret ?_
                          (try simp only [thenE, inBlkE])
                          simp (maxSteps := 4000000) (disch := first | assumption | omega | (simp only [go_sem, *]; done) | (simp only [go_sem, *]; omega)) only [postA, postO, resV1, fzAll, go_sem, hq, Int.reduceToNat, Nat.reduceBEq, Nat.reduceEqDiff, Nat.reduceAdd, Nat.reduceMul, Nat.reduceLeDiff, Nat.reduceLT, Nat.reduceSub, ↓reduceIte, reduceCtorEq]
                          all_goals (rfl)
                      · skip
                        (first | (exfalso; omega) | (exfalso; simp_all; done) | skip)
                        all_goals
                          refine tr_skip ?_
                          (try simp only [thenE, inBlkE])
                          refine hK19 _ ?_
                          refine tr_seq fun K22 hK22 => ?_
                          refine tr_draw [] [0, 3, 9, 10, 11, 12, 13] mixed rfl (by kernel_rfl) rfl fun K hK => ?_
                          iterate 12 refine evD_p ?_
                          refine evD_e hK ?_; clear hK K
                          refine hK22 _ ?_
                          refine tr_seq fun K23 hK23 => ?_
                          refine tr_region [0, 3, 9, 10, 11, 12, 13, 14] rfl rfl fun K hK => ?_
                          refine evR_p ?_
                          refine evR_e hK ?_; clear hK K
                          refine hK23 _ ?_
                          refine tr_block ?_
                          -- loop 2: live [0, 3, 9, 10, 11, 12, 13, 14]
                          refine tr_loopW (fun m σ => ∃ k : Nat, k + m = v ∧ σ = ⟨[(0, .sl 6 (encR rows2)), (3, .sl 1 (encI (decL v d s))), (9, .ptr 0 0), (10, .int .i64 (rows2.getD j rw0).most), (11, .own 1), (12, .int .i64 0), (13, .ptr 2 0), (14, .int .i64 (k : Nat))], [(2, .cells [.int .i64 (j : Nat), .int .i64 1]), (1, .row 3 1 (encI (sumP (rows2.getD j rw0).coef v k))), (0, .cells [.int .i64 (-1), .int .i64 0, .int .i64 0, .sl 2 [[.int .i64 (j : Nat), .int .i64 1]]])], 3⟩) (v) ?_ ?_
                          · exact ⟨_, Wk.refl _, 0, by omega, by rw [sumP_0]; rfl⟩
                          · rintro m2 σ ⟨k, hk, rfl⟩ KL2 hKL2
                            have hsl : (sumP (rows2.getD j rw0).coef v k).length = v := sumP_length (by omega)
                            refine tr_seq fun K24 hK24 => ?_
                            refine tr_seq fun K25 hK25 => ?_
                            refine tr_region [0, 3, 9, 10, 11, 12, 13, 14, 119] rfl rfl fun K hK => ?_
                            iterate 4 refine evR_p ?_
                            refine evR_e hK ?_; clear hK K
                            refine hK25 _ ?_
                            refine tr_condB (fun ht6 => ?_) (fun ht6 => ?_)
                            · skip
                              (first | (exfalso; omega) | (exfalso; simp_all; done) | skip)
                              all_goals
                                have hkl : k < v := by omega
                                have hsa := sumP_at (c := (rows2.getD j rw0).coef) hkl
                                replace hq := And.intro hq (And.intro hkl (And.intro hsl (hsa)))
                                refine tr_skip ?_
                                (try simp only [thenE, inBlkE])
                                refine hK24 _ ?_
                                refine tr_seq fun K26 hK26 => ?_
                                refine tr_block ?_
                                refine tr_draw [] [0, 3, 9, 10, 11, 12, 13, 14] mixed rfl (by kernel_rfl) rfl fun K hK => ?_
                                iterate 21 refine evD_p ?_
                                refine evD_e hK ?_; clear hK K
                                refine hK26 _ ?_
                                refine tr_region [0, 3, 9, 10, 11, 12, 13, 14] rfl rfl fun K hK => ?_
                                iterate 3 refine evR_p ?_
                                refine evR_e hK ?_; clear hK K
                                refine hKL2 _ ?_
                                exact ⟨m2 - 1, _, by omega, Wk.refl _, k + 1, by omega, by rw [w64 (x := (k : Int) + 1) (by omega), sumP_set hkl]; rfl⟩
                            · skip
                              (first | (exfalso; omega) | (exfalso; simp_all; done) | skip)
                              all_goals
                                have hkl : v = k := by omega
                                subst hkl
                                refine tr_exit ?_
                                simp only [thenE, inBlkE, Nat.reduceEqDiff, ↓reduceIte]
                                refine hK17 _ ?_
                                refine tr_region [0, 3, 9, 10, 11, 12] rfl rfl fun K hK => ?_
                                iterate 3 refine evR_p ?_
                                refine evR_e hK ?_; clear hK K
                                refine hKL1 _ ?_
                                exact ⟨0, _, by omega, Wk.cut 2 rfl, .inr ⟨rfl, by rw [sumP_end k1]; rfl⟩⟩
                  · skip
                    (first | (exfalso; omega) | (exfalso; simp_all; done) | skip)
                    all_goals
                      refine tr_exit ?_
                      simp only [thenE, inBlkE, Nat.reduceEqDiff, ↓reduceIte]
                      refine hK13 _ ?_
                      refine tr_seq fun K27 hK27 => ?_
                      refine tr_region [3, 10, 11, 15] rfl rfl fun K hK => ?_
                      refine evR_p ?_
                      refine evR_e hK ?_; clear hK K
                      refine hK27 _ ?_
                      refine tr_seq fun K28 hK28 => ?_
                      refine tr_seq fun K29 hK29 => ?_
                      refine tr_region [3, 10, 11, 15, 16] rfl rfl fun K hK => ?_
                      refine evR_p ?_
                      refine evR_e hK ?_; clear hK K
                      refine hK29 _ ?_
                      refine tr_block ?_
                      -- loop 3: live [3, 10, 11, 15, 16]
                      refine tr_loopW (fun m σ => ∃ k : Nat, k + m = v ∧ σ = ⟨[(3, .sl 1 (encI (decL v d s))), (10, .int .i64 (rows2.getD j rw0).most), (11, .own 1), (15, .int .i64 (lfG (rows2.getD j rw0).coef (decL v d s) k)), (16, .int .i64 (k : Nat))], [(1, .row 3 1 (encI (rows2.getD j rw0).coef)), (0, .cells [.int .i64 (-1), .int .i64 0, .int .i64 0, .sl 2 [[.int .i64 (j : Nat), .int .i64 1]]])], 2⟩) (v) ?_ ?_
                      · exact ⟨_, Wk.refl _, 0, by omega, rfl⟩
                      · rintro m3 σ ⟨k, hk, rfl⟩ KL3 hKL3
                        refine tr_seq fun K30 hK30 => ?_
                        refine tr_seq fun K31 hK31 => ?_
                        refine tr_region [3, 10, 11, 15, 16, 145] rfl rfl fun K hK => ?_
                        iterate 4 refine evR_p ?_
                        refine evR_e hK ?_; clear hK K
                        refine hK31 _ ?_
                        refine tr_condB (fun ht7 => ?_) (fun ht7 => ?_)
                        · skip
                          (first | (exfalso; omega) | (exfalso; simp_all; done) | skip)
                          all_goals
                            have hkl : k < v := by omega
                            replace hq := And.intro hq (hkl)
                            refine tr_skip ?_
                            (try simp only [thenE, inBlkE])
                            refine hK30 _ ?_
                            refine tr_seq fun K32 hK32 => ?_
                            refine tr_block ?_
                            refine tr_seq fun K33 hK33 => ?_
                            refine tr_region [3, 10, 11, 15, 16, 166] rfl rfl fun K hK => ?_
                            iterate 6 refine evR_p ?_
                            iterate 12 refine evR_g ?_
                            refine evR_p ?_
                            refine evR_e hK ?_; clear hK K
                            refine hK33 _ ?_
                            refine tr_condB (fun ht8 => ?_) (fun ht8 => ?_)
                            · skip
                              (first | (exfalso; omega) | (exfalso; simp_all; done) | skip)
                              all_goals
                                refine tr_region [3, 10, 11, 15, 16] rfl rfl fun K hK => ?_
                                iterate 7 refine evR_p ?_
                                refine evR_e hK ?_; clear hK K
                                refine hK32 _ ?_
                                refine tr_region [3, 10, 11, 15, 16] rfl rfl fun K hK => ?_
                                iterate 3 refine evR_p ?_
                                refine evR_e hK ?_; clear hK K
                                refine hKL3 _ ?_
                                first
                                  | exact ⟨m3 - 1, _, by omega, Wk.refl _, k + 1, by omega, by rw [w64 (x := (k : Int) + 1) (by omega), lfG_t (by assumption)]; rfl⟩
                                  | exact ⟨m3 - 1, _, by omega, Wk.refl _, k + 1, by omega, by rw [w64 (x := (k : Int) + 1) (by omega), lfG_f (by assumption)]; rfl⟩
                            · skip
                              (first | (exfalso; omega) | (exfalso; simp_all; done) | skip)
                              all_goals
                                refine tr_skip ?_
                                (try simp only [thenE, inBlkE])
                                refine hK32 _ ?_
                                refine tr_region [3, 10, 11, 15, 16] rfl rfl fun K hK => ?_
                                iterate 3 refine evR_p ?_
                                refine evR_e hK ?_; clear hK K
                                refine hKL3 _ ?_
                                first
                                  | exact ⟨m3 - 1, _, by omega, Wk.refl _, k + 1, by omega, by rw [w64 (x := (k : Int) + 1) (by omega), lfG_t (by assumption)]; rfl⟩
                                  | exact ⟨m3 - 1, _, by omega, Wk.refl _, k + 1, by omega, by rw [w64 (x := (k : Int) + 1) (by omega), lfG_f (by assumption)]; rfl⟩
                        · skip
                          (first | (exfalso; omega) | (exfalso; simp_all; done) | skip)
                          all_goals
                            have hkl : v = k := by omega
                            subst hkl
                            refine tr_exit ?_
                            simp only [thenE, inBlkE, Nat.reduceEqDiff, ↓reduceIte]
                            refine hK28 _ ?_
                            refine tr_seq fun K34 hK34 => ?_
                            refine tr_region [8] rfl rfl fun K hK => ?_
                            iterate 4 refine evR_p ?_
                            refine evR_e hK ?_; clear hK K
                            refine hK34 _ ?_
                            refine tr_ret ?_
                            (try simp only [thenE, inBlkE])
                            simp (maxSteps := 4000000) (disch := first | assumption | omega | (simp only [go_sem, *]; done) | (simp only [go_sem, *]; omega)) only [postA, postO, resV1, fzAll, go_sem, hq, Int.reduceToNat, Nat.reduceBEq, Nat.reduceEqDiff, Nat.reduceAdd, Nat.reduceMul, Nat.reduceLeDiff, Nat.reduceLT, Nat.reduceSub, ↓reduceIte, reduceCtorEq]
                            all_goals (rfl)
      · skip
        (first | (exfalso; omega) | (exfalso; simp_all; done) | skip)
        all_goals
          refine tr_skip ?_
          (try simp only [thenE, inBlkE])
          refine hK6 _ ?_
          refine tr_seq fun K35 hK35 => ?_
          refine tr_seq fun K36 hK36 => ?_
          refine tr_region [0, 1, 3, 9, 203] rfl rfl fun K hK => ?_
          iterate 4 refine evR_p ?_
          iterate 5 refine evR_g ?_
          iterate 2 refine evR_p ?_
          iterate 4 refine evR_g ?_
          iterate 2 refine evR_p ?_
          iterate 4 refine evR_g ?_
          iterate 2 refine evR_p ?_
          iterate 4 refine evR_g ?_
          refine evR_p ?_
          refine evR_e hK ?_; clear hK K
          refine hK36 _ ?_
          refine tr_condB (fun ht9 => ?_) (fun ht9 => ?_)
          · skip
            (first | (exfalso; omega) | (exfalso; simp_all; done) | skip)
            all_goals
              refine tr_seq fun K37 hK37 => ?_
              refine tr_region [8] rfl rfl fun K hK => ?_
              refine evR_p ?_
              refine evR_e hK ?_; clear hK K
              refine hK37 _ ?_
              refine tr_ret ?_
              (try simp only [thenE, inBlkE])
              simp (maxSteps := 4000000) (disch := first | assumption | omega | (simp only [go_sem, *]; done) | (simp only [go_sem, *]; omega)) only [postA, postO, resV1, fzAll, go_sem, hq, Int.reduceToNat, Nat.reduceBEq, Nat.reduceEqDiff, Nat.reduceAdd, Nat.reduceMul, Nat.reduceLeDiff, Nat.reduceLT, Nat.reduceSub, ↓reduceIte, reduceCtorEq]
              all_goals (rfl)
          · skip
            (first | (exfalso; omega) | (exfalso; simp_all; done) | skip)
            all_goals
              refine tr_skip ?_
              (try simp only [thenE, inBlkE])
              refine hK35 _ ?_
              refine tr_seq fun K38 hK38 => ?_
              refine tr_seq fun K39 hK39 => ?_
              refine tr_region [0, 1, 3, 9, 209] rfl rfl fun K hK => ?_
              iterate 6 refine evR_p ?_
              refine evR_e hK ?_; clear hK K
              refine hK39 _ ?_
              refine tr_condB (fun ht10 => ?_) (fun ht10 => ?_)
              · skip
                (first | (exfalso; omega) | (exfalso; simp_all; done) | skip)
                all_goals
                  refine tr_seq fun K40 hK40 => ?_
                  refine tr_region [8] rfl rfl fun K hK => ?_
                  refine evR_p ?_
                  refine evR_e hK ?_; clear hK K
                  refine hK40 _ ?_
                  refine tr_ret ?_
                  (try simp only [thenE, inBlkE])
                  simp (maxSteps := 4000000) (disch := first | assumption | omega | (simp only [go_sem, *]; done) | (simp only [go_sem, *]; omega)) only [postA, postO, resV1, fzAll, go_sem, hq, Int.reduceToNat, Nat.reduceBEq, Nat.reduceEqDiff, Nat.reduceAdd, Nat.reduceMul, Nat.reduceLeDiff, Nat.reduceLT, Nat.reduceSub, ↓reduceIte, reduceCtorEq]
                  all_goals (rfl)
              · skip
                (first | (exfalso; omega) | (exfalso; simp_all; done) | skip)
                all_goals
                  refine tr_skip ?_
                  (try simp only [thenE, inBlkE])
                  refine hK38 _ ?_
                  refine tr_seq fun K41 hK41 => ?_
                  refine tr_region [0, 1, 3, 9, 17] rfl rfl fun K hK => ?_
                  refine evR_bo ?_
                  iterate 3 refine evR_p ?_
                  refine evR_e hK ?_; clear hK K
                  refine hK41 _ ?_
                  refine tr_seq fun K42 hK42 => ?_
                  refine tr_region [0, 1, 3, 9, 17] rfl rfl fun K hK => ?_
                  iterate 5 refine evR_p ?_
                  refine evR_e hK ?_; clear hK K
                  refine hK42 _ ?_
                  refine tr_seq fun K43 hK43 => ?_
                  refine tr_region [0, 1, 9, 17, 18] rfl rfl fun K hK => ?_
                  refine evR_bo ?_
                  iterate 3 refine evR_p ?_
                  refine evR_e hK ?_; clear hK K
                  refine hK43 _ ?_
                  refine tr_seq fun K44 hK44 => ?_
                  refine tr_region [0, 1, 9, 17, 18] rfl rfl fun K hK => ?_
                  iterate 5 refine evR_p ?_
                  refine evR_e hK ?_; clear hK K
                  refine hK44 _ ?_
                  refine tr_seq fun K45 hK45 => ?_
                  refine tr_fz [.own 2, .own 4] (by simp (maxSteps := 4000000) (disch := first | assumption | omega | (simp only [go_sem, *]; done) | (simp only [go_sem, *]; omega)) only [go_sem, hq, Int.reduceToNat, Nat.reduceBEq, Nat.reduceEqDiff, Nat.reduceAdd, Nat.reduceMul, Nat.reduceLeDiff, Nat.reduceLT, Nat.reduceSub, ↓reduceIte, reduceCtorEq]; (try rfl)) ?_
                  refine tr_region [8] rfl rfl fun K hK => ?_
                  iterate 5 refine evR_p ?_
                  refine evR_c (hc := g1) (k := ?_)
                  refine evR_p ?_
                  iterate 5 refine evR_g ?_
                  refine evR_gc (hc := g2) (k := ?_)
                  iterate 2 refine evR_p ?_
                  refine evR_e hK ?_; clear hK K
                  refine hK45 _ ?_
                  refine tr_ret ?_
                  (try simp only [thenE, inBlkE])
                  simp (maxSteps := 4000000) (disch := first | assumption | omega | (simp only [go_sem, *]; done) | (simp only [go_sem, *]; omega)) only [postA, postO, resV1, fzAll, go_sem, hq, Int.reduceToNat, Nat.reduceBEq, Nat.reduceEqDiff, Nat.reduceAdd, Nat.reduceMul, Nat.reduceLeDiff, Nat.reduceLT, Nat.reduceSub, ↓reduceIte, reduceCtorEq]
                  all_goals (rfl)
end
theorem c34 (rows2 rows : List Rw) (v : Nat) (hv : v ≤ 12) (hr : okRws rows2 v) (hmo : ∀ r ∈ rows2, okI r.most) (hlen : rows2.length = rows.length) (hrl : rows2.length ≤ 100000) (l : List Stp) (hll : l.length ≤ maxLen) : ∀ (n d s p : Nat), d + n = v → s < 2 ^ d → infN rows n d s → layT rows l n d s p →
    CallsA Try.prog 34 [.sl 6 (encR rows2), .sl 4 (encS l), .int .i64 (p : Nat), .sl 1 (encI (decL v d s))] (.bool (treeB rows2 rows v n d s)) := by
  have leaf : ∀ d s p : Nat, 0 ≤ idxOf (overB d s) rows → atLeaf rows l d s p → CallsA Try.prog 34 [.sl 6 (encR rows2), .sl 4 (encS l), .int .i64 (p : Nat), .sl 1 (encI (decL v d s))] (.bool (leafB rows2 v (idxOf (overB d s) rows) d s)) := fun d s p h0 ⟨h1, h2⟩ => by
    obtain ⟨k1, -⟩ := idx_at rw0 h0
    obtain ⟨j, hj⟩ := Int.eq_ofNat_of_zero_le h0
    rw [hj] at h2 k1 ⊢
    exact c34a rows2 v hv hr hmo hrl l hll p h1 j h2 (by simp only [Int.toNat_natCast] at k1; omega) d s
  intro n
  induction n with
  | zero => intro d s p hd hs hi hl; exact leaf d s p hi hl
  | succ n ih =>
    intro d s p hd hs hi hl
    simp only [treeB]
    rcases hl with ⟨h0, hl⟩ | ⟨h0, no, yes, a1, a2, a3, a4, a5, a6⟩
    · rw [if_pos h0]; exact leaf d s p h0 hl
    · rw [if_neg h0]
      rcases hi with hi | ⟨i1, i2⟩
      · exact (h0 hi).elim
      · rw [setBit_nat hs (by omega)] at i2
        have g1 := ih (d + 1) s no (by omega) (by rw [Nat.pow_succ]; omega) i1 a5
        have g2 := ih (d + 1) (s + 2 ^ d) yes (by omega) (by rw [Nat.pow_succ]; omega) i2 a6
        rw [← decL_set0 (show d < v by omega) hs] at g1
        rw [← decL_set1 (show d < v by omega) hs] at g2
        exact c34b rows2 l hll p a3 d no yes a4 a1 a2 (decL v d s) (by rw [decL_length]; omega) (by rw [decL_length]; omega) (by rw [decL_getD (by omega), if_neg (by omega)]; omega) _ _ g1 g2

end Go.Proofs.Ytcphhbiehaimeaa

