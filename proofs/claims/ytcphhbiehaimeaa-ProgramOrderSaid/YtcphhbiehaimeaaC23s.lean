import Derived.Test.YtcphhbiehaimeaaF23
import Derived.Test.YtcphhbiehaimeaaAi24
import Derived.Test.YtcphhbiehaimeaaP23
import Derived.Test.YtcphhbiehaimeaaPV23
import Derived.Test.YtcphhbiehaimeaaC23n
import Derived.Test.YtcphhbiehaimeaaC23g
namespace Go.Proofs.Ytcphhbiehaimeaa
open Go.RowKit
set_option linter.unusedVariables false
set_option linter.unusedSimpArgs false
set_option maxRecDepth 100000
attribute [local go_sem] Nat.zero_add Nat.add_zero Nat.mul_one eq_self ne_eq not_true_eq_false not_false_eq_true decide_true decide_false decide_not Bool.false_eq_true List.filter_cons List.filter_nil true_and and_true beq_false beq_true Bool.not_true Bool.not_false Bool.and_true Bool.true_and Option.getD_some Option.getD_none imp_self implies_true Int.toNat_natCast List.cons_append List.nil_append List.map_cons List.map_nil List.length_cons List.length_nil List.getD_cons_zero List.getD_cons_succ List.drop_zero List.drop_succ_cons List.take_succ_cons List.take_zero
attribute [local go_sem] isE isO stpO notIn St.bare evO evDO isEff stp St.get St.slot St.put List.lookup un unL ofVal gof nth pickV pkB_false pkB_true binV unV loadV idxV fldV partV buildV fillV lenV sliV appV appR rowsV winV V.parts V.okp V.sc Mem.look_cons Mem.look_nil V.cl V.clL AObj.clo fzAll exps St.fz Mem.fz V.fz V.fzL AObj.fz Option.isSome_some Option.isSome_none Bool.or_true Bool.true_or Bool.or_false Bool.false_or false_and and_false false_or or_false arT_22 arT_23 arT_24 arT_27 arT_34 arT_35 arT_50 arT_59 arT_61 arT_64 arT_65 arT_68 boolT_24 boolT_3 boolT_38 boolT_4 boolT_79 flatT_24 flatT_3 flatT_38 flatT_4 flatT_79 intT_3 intT_93 lay_23 lay_24 lay_26 lay_27 lay_29 lay_3 lay_32 lay_35 lay_37 lay_4 lay_59 lay_68 lay_70 lay_79 lay_82 lay_88 okF_10 okF_11 okF_12 okF_13 okF_14 okF_15 okF_16 okF_17 okF_18 okF_19 okF_20 okF_21 okF_22 okF_23 okF_24 okF_25 okF_26 okF_27 okF_28 okF_29 okF_3 okF_30 okF_31 okF_32 okF_33 okF_34 okF_35 okF_36 okF_37 okF_38 okF_39 okF_4 okF_40 okF_41 okF_42 okF_43 okF_44 okF_45 okF_46 okF_47 okF_48 okF_49 okF_5 okF_50 okF_51 okF_52 okF_53 okF_54 okF_55 okF_56 okF_57 okF_58 okF_59 okF_6 okF_60 okF_61 okF_62 okF_63 okF_64 okF_65 okF_66 okF_67 okF_68 okF_69 okF_7 okF_70 okF_71 okF_72 okF_73 okF_74 okF_75 okF_8 okF_9 plT_26 plT_29 plT_37 plT_70 plT_79 slT_22 slT_23 slT_24 slT_27 slT_34 slT_35 slT_50 slT_59 slT_61 slT_64 slT_65 slT_68 stT_26_0 stT_26_1 stT_26_2 stT_26_3 stT_26_4 stT_26_5 stT_29_0 stT_29_1 stT_29_2 stT_37_0 stT_37_1 stT_37_2 stT_37_3 stT_70_0 stT_70_1 stT_70_2 stT_70_3 stT_79_0 stT_79_1 zeroT_24 zeroT_26 zeroT_29 zeroT_3 zeroT_32 zeroT_35 zeroT_37 zeroT_59 zeroT_65 zeroT_70 zeroT_79
attribute [local go_sem] List.getElem?_cons_zero List.getElem?_cons_succ List.zip_cons_cons List.zip_nil_left List.zip_nil_right Bool.false_and Bool.and_false List.length_append List.length_set List.length_replicate List.all_cons List.all_nil encI_length encI_getD encR_length encR_getD encRw encPg spl shp AObj.shp rowM isSt isRpS isRd csh AObj.csh forall_const imp_self
attribute [local simp] encI_length encR_length
section
attribute [local go_sem] encSol cellsI_fzL List.replicate_zero encT_length cellsI_length cellsI_getD cellsI_sc cellsI_cl cellsI_winT cellsI_take encR_drop encR_take encR_app cellsI_dropD encR_set getD_set_self List.set_set
set_option maxHeartbeats 8000000 in
theorem c7 (a : Int) (x : List T3) (g : List Int) (ha : okI a) (hxl : x.length ≤ maxLen) (hx : ∀ t ∈ x, okT t) (hgl : g.length = 8) (hg : ∀ c ∈ g, okI c) (turn : Int) (nm : List Int) (htn : okI turn) (hnl : nm.length = 4) : CallsA Try.prog 7 [.int .i64 a, .sl 3 (encT x), .agg (cellsI g), .int .i64 turn, .agg (cellsI nm)] (.bool true) := by
  obtain ⟨M, hM⟩ : ∃ M, madeW a x g = M := ⟨_, rfl⟩
  have hv : validB M = true := hM ▸ made_valid ha hx hg
  have hr8 : M.rows.length ≤ 8 := hM ▸ made_rows a x g
  have hc11 := c11 a x g ha hxl hgl
  rw [hM] at hc11
  obtain ⟨ml1, ml2, ml3⟩ := valid_max hv
  obtain ⟨v, hv1, hv2, hv3, hv4⟩ := vars_pow hv
  have hv5 : shlW .i64 1 M.vars = ((2 ^ v : Nat) : Int) := by rw [hv1]; exact hv3
  obtain ⟨q0, q1, q2, q3, q4, q5⟩ := validB_all hv
  have ss1 : (solveW M).found = true → 0 ≤ (solveW M).set ∧ (solveW M).set < ((2 ^ v : Nat) : Int) := (solve_set hv hv1).1
  have ss0 : (solveW M).found = false → (solveW M).set = 0 ∧ (solveW M).gain = 0 := (solve_set hv hv1).2
  obtain ⟨kt, hkt, hktl⟩ := pick_nat htn (n := M.rows.length + 1) (by omega) (by omega)
  have hw : IntKind.i64.wrap ((M.rows.length : Int) + 1) = ((M.rows.length + 1 : Nat) : Int) := w64 (by omega)
  have hvt := turn_valid hv kt nm
  obtain ⟨tl1, tl2, tl3⟩ := valid_max hvt
  obtain ⟨ts1, ts2, ts3⟩ := turn_solve M kt nm
  have hcm := choice_max hv
  have hct := choice_max hvt
  have htl := turn_len M.rows kt
  have hq := And.intro hv5 (And.intro hgl (And.intro hkt (And.intro hw (hnl))))
  refine callsA_of_tr Try.func7 rfl (Nat.le_of_ble_eq_true rfl) ?_
  simp only [Try.results7, envOf, Nat.reduceAdd]
  refine tr_seq fun K1 hK1 => ?_
  refine tr_region [0, 1, 3, 7, 9] rfl rfl fun K hK => ?_
  iterate 3 refine evR_p ?_
  refine evR_e hK ?_; clear hK K
  refine hK1 _ ?_
  refine tr_seq fun K2 hK2 => ?_
  refine tr_region [0, 1, 3, 7, 9, 11] rfl rfl fun K hK => ?_
  refine evR_c (hc := c10) (k := ?_)
  refine evR_p ?_
  refine evR_e hK ?_; clear hK K
  refine hK2 _ ?_
  refine tr_seq fun K3 hK3 => ?_
  refine tr_seq fun K4 hK4 => ?_
  refine tr_region [0, 1, 3, 7, 9, 11, 26] rfl rfl fun K hK => ?_
  iterate 2 refine evR_p ?_
  refine evR_e hK ?_; clear hK K
  refine hK4 _ ?_
  refine tr_condB (fun ht1 => ?_) (fun ht1 => ?_)
  · skip
    (first | (exfalso; omega) | (exfalso; simp_all; done) | skip)
    all_goals
      refine tr_seq fun K5 hK5 => ?_
      refine tr_region [10] rfl rfl fun K hK => ?_
      refine evR_p ?_
      refine evR_e hK ?_; clear hK K
      refine hK5 _ ?_
      refine tr_ret ?_
      (try simp only [thenE, inBlkE])
      simp (maxSteps := 4000000) (disch := first | assumption | omega | (simp only [go_sem, *]; done) | (simp only [go_sem, *]; omega)) only [postA, postO, resV1, fzAll, go_sem, hq, Int.reduceToNat, Nat.reduceBEq, Nat.reduceEqDiff, Nat.reduceAdd, Nat.reduceMul, Nat.reduceLeDiff, Nat.reduceLT, Nat.reduceSub, ↓reduceIte, reduceCtorEq]
      all_goals (simp [ts1, ts2, ts3, turn_choices])
  · skip
    (first | (exfalso; omega) | (exfalso; simp_all; done) | skip)
    all_goals
      refine tr_skip ?_
      (try simp only [thenE, inBlkE])
      refine hK3 _ ?_
      refine tr_seq fun K6 hK6 => ?_
      refine tr_region [3, 9, 11, 12] rfl rfl fun K hK => ?_
      iterate 3 refine evR_p ?_
      refine evR_c (hc := hc11) (k := ?_)
      iterate 2 refine evR_p ?_
      refine evR_e hK ?_; clear hK K
      refine hK6 _ ?_
      refine tr_seq fun K7 hK7 => ?_
      refine tr_region [9, 11, 12, 13] rfl rfl fun K hK => ?_
      iterate 5 refine evR_p ?_
      refine evR_c (hc := (c12 _ _ (by omega))) (k := ?_)
      refine evR_p ?_
      refine evR_e hK ?_; clear hK K
      refine hK7 _ ?_
      refine tr_seq fun K8 hK8 => ?_
      refine tr_region [9, 11, 12, 13, 14] rfl rfl fun K hK => ?_
      iterate 3 refine evR_p ?_
      refine evR_e hK ?_; clear hK K
      refine hK8 _ ?_
      refine tr_seq fun K9 hK9 => ?_
      refine tr_fz [.ptr 2 0] (by simp (maxSteps := 4000000) (disch := first | assumption | omega | (simp only [go_sem, *]; done) | (simp only [go_sem, *]; omega)) only [go_sem, hq, Int.reduceToNat, Nat.reduceBEq, Nat.reduceEqDiff, Nat.reduceAdd, Nat.reduceMul, Nat.reduceLeDiff, Nat.reduceLT, Nat.reduceSub, ↓reduceIte, reduceCtorEq]; (try rfl)) ?_
      refine tr_draw [40, 45] [9, 11, 12, 14] mixed rfl (by kernel_rfl) rfl fun K hK => ?_
      refine evD_bo ?_
      iterate 12 refine evD_p ?_
      refine evD_e hK ?_; clear hK K
      refine hK9 _ ?_
      refine tr_seq fun K10 hK10 => ?_
      refine tr_seq fun K11 hK11 => ?_
      refine tr_region [9, 11, 12, 14, 15] rfl rfl fun K hK => ?_
      refine evR_p ?_
      refine evR_e hK ?_; clear hK K
      refine hK11 _ ?_
      refine tr_block ?_
      -- loop 1: live [9, 11, 12, 14, 15]
      refine tr_loopW (fun m σ => ∃ i : Nat, i + m = M.rows.length ∧ σ = ⟨[(9, .ptr 1 0), (11, .bool true), (12, .ep [.int .i64 M.vars, .sl 6 (encR M.rows), .sl 1 (encI M.gain)]), (14, .ptr 3 0), (15, .int .i64 (i : Nat))], [(6, .row 26 6 (encR (nmTo (M.rows.drop kt ++ M.rows.take kt) nm i))), (3, .cells [.int .i64 M.vars, .own 6, .sl 1 (encI M.gain)]), (1, .cells (cellsI nm))], 7⟩) (M.rows.length) ?_ ?_
      · exact ⟨_, Wk.drop (fun k => k != 0), 0, by omega, rfl⟩
      · rintro m σ ⟨i, hi, rfl⟩ KL1 hKL1
        have hll : (nmTo (M.rows.drop kt ++ M.rows.take kt) nm i).length = M.rows.length := by rw [nmTo_length, turn_len]
        refine tr_seq fun K12 hK12 => ?_
        refine tr_seq fun K13 hK13 => ?_
        refine tr_region [9, 11, 12, 14, 15, 54] rfl rfl fun K hK => ?_
        iterate 5 refine evR_p ?_
        refine evR_e hK ?_; clear hK K
        refine hK13 _ ?_
        refine tr_condB (fun ht2 => ?_) (fun ht2 => ?_)
        · skip
          (first | (exfalso; omega) | (exfalso; simp_all; done) | skip)
          all_goals
            have hil : i < M.rows.length := by omega
            replace hq := And.intro hq (And.intro hil (hll))
            refine tr_skip ?_
            (try simp only [thenE, inBlkE])
            refine hK12 _ ?_
            refine tr_seq fun K14 hK14 => ?_
            refine tr_block ?_
            refine tr_seq fun K15 hK15 => ?_
            refine tr_region [9, 11, 12, 14, 15] rfl rfl fun K hK => ?_
            iterate 8 refine evR_p ?_
            refine evR_e hK ?_; clear hK K
            refine hK15 _ ?_
            refine tr_seq fun K16 hK16 => ?_
            refine tr_region [9, 11, 12, 14, 15] rfl rfl fun K hK => ?_
            iterate 8 refine evR_p ?_
            refine evR_e hK ?_; clear hK K
            refine hK16 _ ?_
            refine tr_seq fun K17 hK17 => ?_
            refine tr_region [9, 11, 12, 14, 15] rfl rfl fun K hK => ?_
            iterate 8 refine evR_p ?_
            refine evR_e hK ?_; clear hK K
            refine hK17 _ ?_
            refine tr_region [9, 11, 12, 14, 15] rfl rfl fun K hK => ?_
            iterate 8 refine evR_p ?_
            refine evR_e hK ?_; clear hK K
            refine hK14 _ ?_
            refine tr_region [9, 11, 12, 14, 15] rfl rfl fun K hK => ?_
            iterate 3 refine evR_p ?_
            refine evR_e hK ?_; clear hK K
            refine hKL1 _ ?_
            exact ⟨m - 1, _, by omega, Wk.refl _, i + 1, by omega, by rw [w64 (x := (i : Int) + 1) (by omega)]; rfl⟩
        · skip
          (first | (exfalso; omega) | (exfalso; simp_all; done) | skip)
          all_goals
            have hil : i = M.rows.length := by omega
            subst hil
            have eT : nmTo (M.rows.drop kt ++ M.rows.take kt) nm M.rows.length = turnR M.rows kt nm := by unfold turnR; rw [turn_len]
            rw [eT]
            refine tr_exit ?_
            simp only [thenE, inBlkE, Nat.reduceEqDiff, ↓reduceIte]
            refine hK10 _ ?_
            refine tr_seq fun K18 hK18 => ?_
            refine tr_fz [.own 6] (by simp (maxSteps := 4000000) (disch := first | assumption | omega | (simp only [go_sem, *]; done) | (simp only [go_sem, *]; omega)) only [go_sem, hq, Int.reduceToNat, Nat.reduceBEq, Nat.reduceEqDiff, Nat.reduceAdd, Nat.reduceMul, Nat.reduceLeDiff, Nat.reduceLT, Nat.reduceSub, ↓reduceIte, reduceCtorEq]; (try rfl)) ?_
            refine tr_region [11, 12, 14, 16, 17] rfl rfl fun K hK => ?_
            refine evR_p ?_
            refine evR_c (hc := (c14 M ml1 ml2 ml3 hv)) (k := ?_)
            iterate 6 refine evR_p ?_
            refine evR_e hK ?_; clear hK K
            refine hK18 _ ?_
            refine tr_seq fun K19 hK19 => ?_
            refine tr_region [11, 12, 14, 16, 17, 18, 19] rfl rfl fun K hK => ?_
            refine evR_p ?_
            refine evR_c (hc := (c14 (turnPg M kt nm) tl1 tl2 tl3 hvt)) (k := ?_)
            iterate 6 refine evR_p ?_
            refine evR_e hK ?_; clear hK K
            refine hK19 _ ?_
            refine tr_seq fun K20 hK20 => ?_
            refine tr_region [11, 14, 16, 17, 18, 19, 20, 21] rfl rfl fun K hK => ?_
            refine evR_p ?_
            refine evR_c (hc := (c16 M ml1 ml2 ml3 hv)) (k := ?_)
            iterate 5 refine evR_p ?_
            refine evR_e hK ?_; clear hK K
            refine hK20 _ ?_
            refine tr_seq fun K21 hK21 => ?_
            refine tr_region [11, 16, 17, 18, 19, 20, 21, 22, 23] rfl rfl fun K hK => ?_
            refine evR_p ?_
            refine evR_c (hc := (c16 (turnPg M kt nm) tl1 tl2 tl3 hvt)) (k := ?_)
            iterate 5 refine evR_p ?_
            refine evR_e hK ?_; clear hK K
            refine hK21 _ ?_
            refine tr_seq fun K22 hK22 => ?_
            refine tr_region [10] rfl rfl fun K hK => ?_
            iterate 2 refine evR_p ?_
            iterate 2 refine evR_g ?_
            iterate 2 refine evR_p ?_
            iterate 2 refine evR_g ?_
            iterate 2 refine evR_p ?_
            iterate 2 refine evR_g ?_
            iterate 2 refine evR_p ?_
            iterate 2 refine evR_g ?_
            iterate 2 refine evR_p ?_
            iterate 5 refine evR_g ?_
            iterate 2 refine evR_p ?_
            iterate 5 refine evR_g ?_
            iterate 2 refine evR_p ?_
            iterate 5 refine evR_g ?_
            iterate 2 refine evR_p ?_
            iterate 2 refine evR_g ?_
            refine evR_gc (hc := (c19 (choiceL M) (choiceL (turnPg M kt nm)) hcm.1 hct.1)) (k := ?_)
            iterate 2 refine evR_p ?_
            refine evR_e hK ?_; clear hK K
            refine hK22 _ ?_
            refine tr_ret ?_
            (try simp only [thenE, inBlkE])
            simp (maxSteps := 4000000) (disch := first | assumption | omega | (simp only [go_sem, *]; done) | (simp only [go_sem, *]; omega)) only [postA, postO, resV1, fzAll, go_sem, hq, Int.reduceToNat, Nat.reduceBEq, Nat.reduceEqDiff, Nat.reduceAdd, Nat.reduceMul, Nat.reduceLeDiff, Nat.reduceLT, Nat.reduceSub, ↓reduceIte, reduceCtorEq]
            all_goals (simp [ts1, ts2, ts3, turn_choices])
end

end Go.Proofs.Ytcphhbiehaimeaa

