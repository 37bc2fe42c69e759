import Derived.Test.YtgmgifmfhpoglaaDoorKCb
import Derived.Test.YtgmgifmfhpoglaaDoorKCc
import Derived.Test.YtgmgifmfhpoglaaDoorKCd
import Derived.Test.YtgmgifmfhpoglaaDoorKCe
namespace Go.Proofs.YtgmgifmfhpoglaaDoor
open Go.RowKit
set_option linter.unusedVariables false
set_option linter.unusedSimpArgs false
set_option maxRecDepth 100000
attribute [local go_sem] Nat.zero_add Nat.add_zero Nat.mul_one eq_self ne_eq not_true_eq_false not_false_eq_true decide_true decide_false decide_not Bool.false_eq_true List.filter_cons List.filter_nil true_and and_true beq_false beq_true Bool.not_true Bool.not_false Bool.and_true Bool.true_and Option.getD_some Option.getD_none imp_self implies_true Int.toNat_natCast List.cons_append List.nil_append List.map_cons List.map_nil List.length_cons List.length_nil List.getD_cons_zero List.getD_cons_succ List.drop_zero List.drop_succ_cons List.take_succ_cons List.take_zero
attribute [local go_sem] isE isO stpO notIn St.bare evO evDO isEff stp St.get St.slot St.put List.lookup un unL ofVal gof nth pickV pkB_false pkB_true binV unV loadV idxV fldV partV buildV fillV lenV sliV appV appR rowsV winV V.parts V.okp V.sc Mem.look_cons Mem.look_nil V.cl V.clL AObj.clo fzAll exps St.fz Mem.fz V.fz V.fzL AObj.fz Option.isSome_some Option.isSome_none Bool.or_true Bool.true_or Bool.or_false Bool.false_or false_and and_false false_or or_false arT_102 arT_103 arT_22 arT_23 arT_26 arT_27 arT_31 arT_38 arT_45 arT_55 arT_85 arT_86 arT_9 boolT_100 boolT_23 boolT_3 boolT_32 boolT_4 boolT_98 flatT_100 flatT_23 flatT_3 flatT_32 flatT_4 flatT_98 intT_100 intT_3 intT_5 intT_81 intT_83 intT_98 lay_22 lay_23 lay_25 lay_27 lay_3 lay_37 lay_4 lay_45 lay_47 lay_5 lay_54 lay_61 lay_66 lay_82 lay_88 okF_10 okF_11 okF_12 okF_13 okF_14 okF_15 okF_16 okF_17 okF_18 okF_19 okF_20 okF_21 okF_22 okF_23 okF_24 okF_25 okF_26 okF_27 okF_28 okF_29 okF_3 okF_30 okF_31 okF_32 okF_33 okF_34 okF_35 okF_36 okF_37 okF_38 okF_39 okF_4 okF_40 okF_41 okF_42 okF_43 okF_44 okF_45 okF_46 okF_47 okF_48 okF_49 okF_5 okF_50 okF_51 okF_52 okF_53 okF_54 okF_55 okF_56 okF_57 okF_58 okF_59 okF_6 okF_60 okF_61 okF_62 okF_63 okF_64 okF_65 okF_66 okF_67 okF_68 okF_69 okF_7 okF_70 okF_71 okF_72 okF_73 okF_74 okF_75 okF_76 okF_77 okF_78 okF_79 okF_8 okF_80 okF_81 okF_82 okF_83 okF_84 okF_85 okF_86 okF_87 okF_88 okF_89 okF_9 plT_25 plT_47 plT_54 plT_93 plT_96 slT_102 slT_103 slT_22 slT_23 slT_26 slT_27 slT_31 slT_38 slT_45 slT_55 slT_85 slT_86 slT_94 stT_25_0 stT_25_1 stT_25_2 stT_47_0 stT_47_2 stT_47_3 stT_54_4 stT_54_5 stT_96_1 stT_96_2 strT_9 zeroT_23 zeroT_25 zeroT_3 zeroT_37 zeroT_4 zeroT_45 zeroT_47 zeroT_54 zeroT_55 zeroT_66 zeroT_82 zeroT_85 zeroT_86 zeroT_93 zeroT_96
attribute [local go_sem] List.getElem?_cons_zero List.getElem?_cons_succ List.zip_cons_cons List.zip_nil_left List.zip_nil_right Bool.false_and Bool.and_false List.length_append List.length_set List.length_replicate List.all_cons List.all_nil encI_length encI_getD encR_length encR_getD encRw encPg spl shp AObj.shp rowM isSt isRpS isRd csh AObj.csh forall_const imp_self
attribute [local simp] encI_length encR_length cellsI_length
section
attribute [local go_sem] cellsI_fzL List.replicate_zero encT_length cellsI_length cellsI_getD cellsI_sc cellsI_cl cellsI_winT cellsI_take encSol
set_option maxHeartbeats 8000000 in
theorem k8 (a : Int) (x : List T3) (g : List Int) (ha : okI a) (hxl : x.length ≤ maxLen) (hx : ∀ t ∈ x, okT t) (hgl : g.length = 8) (hg : ∀ c ∈ g, okI c) (bits : Int) (hb : okI bits) : CallsA Tryd.prog 8 [.int .i64 a, .sl 3 (encT x), .agg (cellsI g), .int .i64 bits] (.bool true) := by
  obtain ⟨M, hM⟩ : ∃ M, madeW a x g = M := ⟨_, rfl⟩
  have hv : validB M = true := hM ▸ made_valid ha hx hg
  have hr8 : M.rows.length ≤ 8 := hM ▸ made_rows a x g
  have hn : M.rows.length ≤ 12 := by omega
  have hc11 := c11 a x g ha hxl hgl
  rw [hM] at hc11
  obtain ⟨ml1, ml2, ml3⟩ := valid_max hv
  obtain ⟨v, hv1, hv2, hv3, hv4⟩ := vars_pow hv
  have hv5 : shlW .i64 1 M.vars = ((2 ^ v : Nat) : Int) := by rw [hv1]; exact hv3
  have hn5 : shlW .i64 1 (M.rows.length : Nat) = ((2 ^ M.rows.length : Nat) : Int) := shl_pow hn
  have hsm := sm_8 hv hr8
  have hpn := pow_4096 hn
  have hcv := coreV_s hsm
  have hrv := repV_s hsm
  obtain ⟨k, hk, hkl⟩ := pick_pow hb hn
  obtain ⟨u, hu, hru, hrs, -⟩ := rep_shape hv hn
  have hw1 : wthV M (repL M) = [.agg (encPg (withoutW M (repL M))), .int .i64 0] := by rw [hru]; exact wth_rows hv hu
  have hw2 := wth_rows hv hkl
  have hv1' := without_valid hv (repL M)
  have hv2' := without_valid hv (rowsN k)
  obtain ⟨wl1, wl2, wl3⟩ := valid_max hv1'
  obtain ⟨xl1, xl2, xl3⟩ := valid_max hv2'
  have hf1 : (solveW (withoutW M (repL M))).found = true := by rw [hru, found_without hv hn hu]; exact hrs
  have hf2 : (rowsN k).length < (repL M).length → (solveW (withoutW M (rowsN k))).found = false := fun h => by rw [found_without hv hn hkl]; exact less_no hv hn hkl h
  have hq := And.intro hv5 (And.intro hn5 (And.intro hgl (And.intro hk (hf1))))
  refine callsA_of_tr Tryd.func8 rfl (Nat.le_of_ble_eq_true rfl) ?_
  simp only [Tryd.results8, envOf, Nat.reduceAdd]
  refine tr_seq fun K1 hK1 => ?_
  refine tr_region [0, 1, 3, 6] rfl rfl fun K hK => ?_
  iterate 2 refine evR_p ?_
  refine evR_e hK ?_; clear hK K
  refine hK1 _ ?_
  refine tr_seq fun K2 hK2 => ?_
  refine tr_region [0, 1, 3, 6, 9] rfl rfl fun K hK => ?_
  refine evR_c (hc := k9) (k := ?_)
  refine evR_p ?_
  refine evR_e hK ?_; clear hK K
  refine hK2 _ ?_
  refine tr_seq fun K3 hK3 => ?_
  refine tr_seq fun K4 hK4 => ?_
  refine tr_region [0, 1, 3, 6, 9, 24] rfl rfl fun K hK => ?_
  iterate 2 refine evR_p ?_
  refine evR_e hK ?_; clear hK K
  refine hK4 _ ?_
  refine tr_condB (fun ht1 => ?_) (fun ht1 => ?_)
  · skip
    (first | (exfalso; simp_all; done) | skip)
    all_goals
      refine tr_seq fun K5 hK5 => ?_
      refine tr_region [8] rfl rfl fun K hK => ?_
      refine evR_p ?_
      refine evR_e hK ?_; clear hK K
      refine hK5 _ ?_
      refine tr_ret ?_
      (try simp only [thenE, inBlkE])
      simp (maxSteps := 4000000) (disch := first | assumption | omega | (simp only [go_sem, *]; done) | (simp only [go_sem, *]; omega)) only [postA, postO, resV1, fzAll, go_sem, hq, Int.reduceToNat, Nat.reduceBEq, Nat.reduceEqDiff, Nat.reduceAdd, Nat.reduceMul, Nat.reduceLeDiff, Nat.reduceLT, Nat.reduceSub, ↓reduceIte, reduceCtorEq]
      all_goals (first | rfl | (simp; done) | (rw [hf2 (by omega)]; rfl) | (simp [hf2 (by omega)]))
  · skip
    (first | (exfalso; simp_all; done) | skip)
    all_goals
      refine tr_skip ?_
      (try simp only [thenE, inBlkE])
      refine hK3 _ ?_
      refine tr_seq fun K6 hK6 => ?_
      refine tr_region [3, 9, 10] rfl rfl fun K hK => ?_
      iterate 3 refine evR_p ?_
      refine evR_c (hc := hc11) (k := ?_)
      iterate 2 refine evR_p ?_
      refine evR_e hK ?_; clear hK K
      refine hK6 _ ?_
      refine tr_seq fun K7 hK7 => ?_
      refine tr_region [3, 9, 10, 11, 12] rfl rfl fun K hK => ?_
      refine evR_p ?_
      refine evR_c (hc := (hrv ▸ k14a M ml1 ml2 ml3)) (k := ?_)
      iterate 5 refine evR_p ?_
      refine evR_e hK ?_; clear hK K
      refine hK7 _ ?_
      refine tr_seq fun K8 hK8 => ?_
      refine tr_region [3, 9, 10, 11, 12, 13, 14] rfl rfl fun K hK => ?_
      iterate 2 refine evR_p ?_
      refine evR_c (hc := (hw1 ▸ c30 M ml1 ml2 ml3 (repL M) (rows_max _))) (k := ?_)
      iterate 6 refine evR_p ?_
      refine evR_e hK ?_; clear hK K
      refine hK8 _ ?_
      refine tr_seq fun K9 hK9 => ?_
      refine tr_region [3, 9, 10, 11, 12, 14, 15, 16] rfl rfl fun K hK => ?_
      refine evR_p ?_
      refine evR_c (hc := (c14 (withoutW M (repL M)) wl1 wl2 wl3 hv1')) (k := ?_)
      iterate 6 refine evR_p ?_
      refine evR_e hK ?_; clear hK K
      refine hK9 _ ?_
      refine tr_seq fun K10 hK10 => ?_
      refine tr_seq fun K11 hK11 => ?_
      refine tr_region [3, 9, 10, 11, 59] rfl rfl fun K hK => ?_
      iterate 3 refine evR_p ?_
      iterate 2 refine evR_g ?_
      iterate 2 refine evR_p ?_
      iterate 2 refine evR_g ?_
      iterate 2 refine evR_p ?_
      iterate 3 refine evR_g ?_
      refine evR_p ?_
      refine evR_e hK ?_; clear hK K
      refine hK11 _ ?_
      refine tr_condB (fun ht2 => ?_) (fun ht2 => ?_)
      · skip
        (first | (exfalso; simp_all; done) | skip)
        all_goals
          refine tr_seq fun K12 hK12 => ?_
          refine tr_region [8] rfl rfl fun K hK => ?_
          refine evR_p ?_
          refine evR_e hK ?_; clear hK K
          refine hK12 _ ?_
          refine tr_ret ?_
          (try simp only [thenE, inBlkE])
          simp (maxSteps := 4000000) (disch := first | assumption | omega | (simp only [go_sem, *]; done) | (simp only [go_sem, *]; omega)) only [postA, postO, resV1, fzAll, go_sem, hq, Int.reduceToNat, Nat.reduceBEq, Nat.reduceEqDiff, Nat.reduceAdd, Nat.reduceMul, Nat.reduceLeDiff, Nat.reduceLT, Nat.reduceSub, ↓reduceIte, reduceCtorEq]
          all_goals (first | rfl | (simp; done) | (rw [hf2 (by omega)]; rfl) | (simp [hf2 (by omega)]))
      · skip
        (first | (exfalso; simp_all; done) | skip)
        all_goals
          refine tr_skip ?_
          (try simp only [thenE, inBlkE])
          refine hK10 _ ?_
          refine tr_seq fun K13 hK13 => ?_
          refine tr_region [9, 10, 11, 17] rfl rfl fun K hK => ?_
          iterate 5 refine evR_p ?_
          refine evR_c (hc := (c12 _ _ (pow_pos_int _))) (k := ?_)
          refine evR_c (hc := (k17 k (by omega))) (k := ?_)
          refine evR_p ?_
          refine evR_e hK ?_; clear hK K
          refine hK13 _ ?_
          refine tr_seq fun K14 hK14 => ?_
          refine tr_seq fun K15 hK15 => ?_
          refine tr_region [9, 10, 17, 71] rfl rfl fun K hK => ?_
          iterate 5 refine evR_p ?_
          refine evR_e hK ?_; clear hK K
          refine hK15 _ ?_
          refine tr_condB (fun ht3 => ?_) (fun ht3 => ?_)
          · skip
            (first | (exfalso; simp_all; done) | skip)
            all_goals
              refine tr_seq fun K16 hK16 => ?_
              refine tr_region [8] rfl rfl fun K hK => ?_
              iterate 2 refine evR_p ?_
              refine evR_e hK ?_; clear hK K
              refine hK16 _ ?_
              refine tr_ret ?_
              (try simp only [thenE, inBlkE])
              simp (maxSteps := 4000000) (disch := first | assumption | omega | (simp only [go_sem, *]; done) | (simp only [go_sem, *]; omega)) only [postA, postO, resV1, fzAll, go_sem, hq, Int.reduceToNat, Nat.reduceBEq, Nat.reduceEqDiff, Nat.reduceAdd, Nat.reduceMul, Nat.reduceLeDiff, Nat.reduceLT, Nat.reduceSub, ↓reduceIte, reduceCtorEq]
              all_goals (first | rfl | (simp; done) | (rw [hf2 (by omega)]; rfl) | (simp [hf2 (by omega)]))
          · skip
            (first | (exfalso; simp_all; done) | skip)
            all_goals
              refine tr_skip ?_
              (try simp only [thenE, inBlkE])
              refine hK14 _ ?_
              refine tr_seq fun K17 hK17 => ?_
              refine tr_region [18, 19] rfl rfl fun K hK => ?_
              iterate 2 refine evR_p ?_
              refine evR_c (hc := (hw2 ▸ c30 M ml1 ml2 ml3 (rowsN k) (rows_max _))) (k := ?_)
              iterate 6 refine evR_p ?_
              refine evR_e hK ?_; clear hK K
              refine hK17 _ ?_
              refine tr_seq fun K18 hK18 => ?_
              refine tr_region [19, 20, 21] rfl rfl fun K hK => ?_
              refine evR_p ?_
              refine evR_c (hc := (c14 (withoutW M (rowsN k)) xl1 xl2 xl3 hv2')) (k := ?_)
              iterate 6 refine evR_p ?_
              refine evR_e hK ?_; clear hK K
              refine hK18 _ ?_
              refine tr_seq fun K19 hK19 => ?_
              refine tr_region [8] rfl rfl fun K hK => ?_
              iterate 3 refine evR_p ?_
              iterate 2 refine evR_g ?_
              iterate 2 refine evR_p ?_
              iterate 3 refine evR_g ?_
              iterate 2 refine evR_p ?_
              refine evR_e hK ?_; clear hK K
              refine hK19 _ ?_
              refine tr_ret ?_
              (try simp only [thenE, inBlkE])
              simp (maxSteps := 4000000) (disch := first | assumption | omega | (simp only [go_sem, *]; done) | (simp only [go_sem, *]; omega)) only [postA, postO, resV1, fzAll, go_sem, hq, Int.reduceToNat, Nat.reduceBEq, Nat.reduceEqDiff, Nat.reduceAdd, Nat.reduceMul, Nat.reduceLeDiff, Nat.reduceLT, Nat.reduceSub, ↓reduceIte, reduceCtorEq]
              all_goals (first | rfl | (simp; done) | (rw [hf2 (by omega)]; rfl) | (simp [hf2 (by omega)]))
end

end Go.Proofs.YtgmgifmfhpoglaaDoor

