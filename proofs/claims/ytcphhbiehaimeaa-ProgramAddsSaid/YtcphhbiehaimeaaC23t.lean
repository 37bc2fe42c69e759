import Derived.Test.YtcphhbiehaimeaaF23
import Derived.Test.YtcphhbiehaimeaaAi24
import Derived.Test.YtcphhbiehaimeaaP23
import Derived.Test.YtcphhbiehaimeaaPW23
import Derived.Test.YtcphhbiehaimeaaC23n
import Derived.Test.YtcphhbiehaimeaaC23g
namespace Go.Proofs.Ytcphhbiehaimeaa
open Go.RowKit
set_option linter.unusedVariables false
set_option linter.unusedSimpArgs false
set_option maxRecDepth 100000
attribute [local go_sem] Nat.zero_add Nat.add_zero Nat.mul_one eq_self ne_eq not_true_eq_false not_false_eq_true decide_true decide_false decide_not Bool.false_eq_true List.filter_cons List.filter_nil true_and and_true beq_false beq_true Bool.not_true Bool.not_false Bool.and_true Bool.true_and Option.getD_some Option.getD_none imp_self implies_true Int.toNat_natCast List.cons_append List.nil_append List.map_cons List.map_nil List.length_cons List.length_nil List.getD_cons_zero List.getD_cons_succ List.drop_zero List.drop_succ_cons List.take_succ_cons List.take_zero
attribute [local go_sem] isE isO stpO notIn St.bare evO evDO isEff stp St.get St.slot St.put List.lookup un unL ofVal gof nth pickV pkB_false pkB_true binV unV loadV idxV fldV partV buildV fillV lenV sliV appV appR rowsV winV V.parts V.okp V.sc Mem.look_cons Mem.look_nil V.cl V.clL AObj.clo fzAll exps St.fz Mem.fz V.fz V.fzL AObj.fz Option.isSome_some Option.isSome_none Bool.or_true Bool.true_or Bool.or_false Bool.false_or false_and and_false false_or or_false arT_22 arT_23 arT_24 arT_27 arT_34 arT_35 arT_50 arT_59 arT_61 arT_64 arT_65 arT_68 boolT_24 boolT_3 boolT_38 boolT_4 boolT_79 flatT_24 flatT_3 flatT_38 flatT_4 flatT_79 intT_3 intT_93 lay_23 lay_24 lay_26 lay_27 lay_29 lay_3 lay_32 lay_35 lay_37 lay_4 lay_59 lay_68 lay_70 lay_79 lay_82 lay_88 okF_10 okF_11 okF_12 okF_13 okF_14 okF_15 okF_16 okF_17 okF_18 okF_19 okF_20 okF_21 okF_22 okF_23 okF_24 okF_25 okF_26 okF_27 okF_28 okF_29 okF_3 okF_30 okF_31 okF_32 okF_33 okF_34 okF_35 okF_36 okF_37 okF_38 okF_39 okF_4 okF_40 okF_41 okF_42 okF_43 okF_44 okF_45 okF_46 okF_47 okF_48 okF_49 okF_5 okF_50 okF_51 okF_52 okF_53 okF_54 okF_55 okF_56 okF_57 okF_58 okF_59 okF_6 okF_60 okF_61 okF_62 okF_63 okF_64 okF_65 okF_66 okF_67 okF_68 okF_69 okF_7 okF_70 okF_71 okF_72 okF_73 okF_74 okF_75 okF_8 okF_9 plT_26 plT_29 plT_37 plT_70 plT_79 slT_22 slT_23 slT_24 slT_27 slT_34 slT_35 slT_50 slT_59 slT_61 slT_64 slT_65 slT_68 stT_26_0 stT_26_1 stT_26_2 stT_26_3 stT_26_4 stT_26_5 stT_29_0 stT_29_1 stT_29_2 stT_37_0 stT_37_1 stT_37_2 stT_37_3 stT_70_0 stT_70_1 stT_70_2 stT_70_3 stT_79_0 stT_79_1 zeroT_24 zeroT_26 zeroT_29 zeroT_3 zeroT_32 zeroT_35 zeroT_37 zeroT_59 zeroT_65 zeroT_70 zeroT_79
attribute [local go_sem] List.getElem?_cons_zero List.getElem?_cons_succ List.zip_cons_cons List.zip_nil_left List.zip_nil_right Bool.false_and Bool.and_false List.length_append List.length_set List.length_replicate List.all_cons List.all_nil encI_length encI_getD encR_length encR_getD encRw encPg spl shp AObj.shp rowM isSt isRpS isRd csh AObj.csh forall_const imp_self
attribute [local simp] encI_length encR_length cellsI_length
section
attribute [local go_sem] encSol cellsI_fzL List.replicate_zero encT_length cellsI_length cellsI_getD cellsI_sc cellsI_cl cellsI_winT cellsI_take cellsI_dropD cellsB_length cellsB_getD cellsB_sc cellsB_cl cellsB_dropD cellsB_spl isTo_length set4 encI_snoc addL_length mulL_length
set_option maxHeartbeats 16000000 in
theorem c9 (a : Int) (x : List T3) (g : List Int) (ha : okI a) (hxl : x.length ≤ maxLen) (hx : ∀ t ∈ x, okT t) (hgl : g.length = 8) (hg : ∀ c ∈ g, okI c) (wh tm : List Int) (hwh : wh.length = 2 ∧ ∀ c ∈ wh, okI c) (htm : tm.length = 2 ∧ ∀ c ∈ tm, okI c) : CallsA Try.prog 9 [.int .i64 a, .sl 3 (encT x), .agg (cellsI g), .agg (cellsI wh), .agg (cellsI tm)] (.bool true) := by
  obtain ⟨M, hM⟩ : ∃ M, madeW a x g = M := ⟨_, rfl⟩
  have hv : validB M = true := hM ▸ made_valid ha hx hg
  have hr8 : M.rows.length ≤ 8 := hM ▸ made_rows a x g
  have hc11 := c11 a x g ha hxl hgl
  rw [hM] at hc11
  obtain ⟨ml1, ml2, ml3⟩ := valid_max hv
  obtain ⟨v, hv1, hv2, hv3, hv4⟩ := vars_pow hv
  have hv5 : shlW .i64 1 M.vars = ((2 ^ v : Nat) : Int) := by rw [hv1]; exact hv3
  obtain ⟨q0, q1, q2, q3, q4, q5⟩ := validB_all hv
  have ss1 : (solveW M).found = true → 0 ≤ (solveW M).set ∧ (solveW M).set < ((2 ^ v : Nat) : Int) := (solve_set hv hv1).1
  have ss0 : (solveW M).found = false → (solveW M).set = 0 ∧ (solveW M).gain = 0 := (solve_set hv hv1).2
  have hsm : ∀ r ∈ M.rows, smallR r := fun r hr => by have h := made_row (v := a) (g := g) hx (r := r) (by rw [hM]; exact hr); exact ⟨h.2.1, h.2.2⟩
  obtain ⟨mm, hmm, hmm2⟩ := pick_nat (c := tm.getD 0 0) (n := 51) (getD_okI htm.2 0) (by omega) (by omega)
  obtain ⟨nn, hnn, hnn2⟩ := pick_nat (c := tm.getD 1 0) (n := 51) (getD_okI htm.2 1) (by omega) (by omega)
  have hmm' : pickW (tm.getD 0 0) 51 = (mm : Nat) := hmm
  have hnn' : pickW (tm.getD 1 0) 51 = (nn : Nat) := hnn
  obtain ⟨hwl, -⟩ := id hwh
  obtain ⟨htl, -⟩ := id htm
  obtain ⟨k1, k2, hkk⟩ : ∃ k1 k2 : Nat, 0 < M.rows.length → pickW (wh.getD 0 0) (M.rows.length : Nat) = (k1 : Nat) ∧ pickW (wh.getD 1 0) (M.rows.length : Nat) = (k2 : Nat) ∧ k1 < M.rows.length ∧ k2 < M.rows.length := by
    by_cases h0 : 0 < M.rows.length
    · obtain ⟨k1, h1, h2⟩ := pick_nat (c := wh.getD 0 0) (n := M.rows.length) (getD_okI hwh.2 0) h0 (by omega)
      obtain ⟨k2, h3, h4⟩ := pick_nat (c := wh.getD 1 0) (n := M.rows.length) (getD_okI hwh.2 1) h0 (by omega)
      exact ⟨k1, k2, fun _ => ⟨h1, h3, h2, h4⟩⟩
    · exact ⟨0, 0, fun h => (h0 h).elim⟩
  have hq := And.intro hv5 (And.intro hgl (And.intro hmm' (And.intro hnn' (And.intro hwl (htl)))))
  refine callsA_of_tr Try.func9 rfl (Nat.le_of_ble_eq_true rfl) ?_
  simp only [Try.results9, envOf, Nat.reduceAdd]
  refine tr_seq fun K1 hK1 => ?_
  refine tr_region [0, 1, 7, 8, 9] rfl rfl fun K hK => ?_
  iterate 4 refine evR_p ?_
  refine evR_e hK ?_; clear hK K
  refine hK1 _ ?_
  refine tr_seq fun K2 hK2 => ?_
  refine tr_region [0, 1, 7, 8, 9, 11] rfl rfl fun K hK => ?_
  refine evR_c (hc := c10) (k := ?_)
  refine evR_p ?_
  refine evR_e hK ?_; clear hK K
  refine hK2 _ ?_
  refine tr_seq fun K3 hK3 => ?_
  refine tr_seq fun K4 hK4 => ?_
  refine tr_region [0, 1, 7, 8, 9, 11, 27] rfl rfl fun K hK => ?_
  iterate 2 refine evR_p ?_
  refine evR_e hK ?_; clear hK K
  refine hK4 _ ?_
  refine tr_condB (fun ht1 => ?_) (fun ht1 => ?_)
  · skip
    (first | (exfalso; simp_all; done) | (exfalso; omega) | (have hpos : 0 < M.rows.length := (by omega); obtain ⟨hk1, hk2, hk1l, hk2l⟩ := hkk hpos; replace hq := And.intro hq (And.intro hk1 hk2); have c1l := (q5 _ (getD_mem (d := rw0) hk1l)).1; have c2l := (q5 _ (getD_mem (d := rw0) hk2l)).1; have s1 := hsm _ (getD_mem (d := rw0) hk1l); have s2 := hsm _ (getD_mem (d := rw0) hk2l); have mb1 := getD_mem (d := rw0) hk1l; have mb2 := getD_mem (d := rw0) hk2l; clear hkk) | skip)
    all_goals
      refine tr_seq fun K5 hK5 => ?_
      refine tr_region [10] rfl rfl fun K hK => ?_
      refine evR_p ?_
      refine evR_e hK ?_; clear hK K
      refine hK5 _ ?_
      refine tr_ret ?_
      (try simp only [thenE, inBlkE])
      simp (maxSteps := 4000000) (disch := first | assumption | omega | (simp only [go_sem, *]; done) | (simp only [go_sem, *]; omega)) only [postA, postO, resV1, fzAll, go_sem, hq, Int.reduceToNat, Nat.reduceBEq, Nat.reduceEqDiff, Nat.reduceAdd, Nat.reduceMul, Nat.reduceLeDiff, Nat.reduceLT, Nat.reduceSub, ↓reduceIte, reduceCtorEq]
      all_goals (rfl)
  · skip
    (first | (exfalso; simp_all; done) | (exfalso; omega) | (have hpos : 0 < M.rows.length := (by omega); obtain ⟨hk1, hk2, hk1l, hk2l⟩ := hkk hpos; replace hq := And.intro hq (And.intro hk1 hk2); have c1l := (q5 _ (getD_mem (d := rw0) hk1l)).1; have c2l := (q5 _ (getD_mem (d := rw0) hk2l)).1; have s1 := hsm _ (getD_mem (d := rw0) hk1l); have s2 := hsm _ (getD_mem (d := rw0) hk2l); have mb1 := getD_mem (d := rw0) hk1l; have mb2 := getD_mem (d := rw0) hk2l; clear hkk) | skip)
    all_goals
      refine tr_skip ?_
      (try simp only [thenE, inBlkE])
      refine hK3 _ ?_
      refine tr_seq fun K6 hK6 => ?_
      refine tr_region [8, 9, 11, 12] rfl rfl fun K hK => ?_
      iterate 3 refine evR_p ?_
      refine evR_c (hc := hc11) (k := ?_)
      iterate 2 refine evR_p ?_
      refine evR_e hK ?_; clear hK K
      refine hK6 _ ?_
      refine tr_seq fun K7 hK7 => ?_
      refine tr_seq fun K8 hK8 => ?_
      refine tr_region [8, 9, 11, 12, 35] rfl rfl fun K hK => ?_
      iterate 4 refine evR_p ?_
      refine evR_e hK ?_; clear hK K
      refine hK8 _ ?_
      refine tr_condB (fun ht2 => ?_) (fun ht2 => ?_)
      · skip
        (first | (exfalso; simp_all; done) | (exfalso; omega) | (have hpos : 0 < M.rows.length := (by omega); obtain ⟨hk1, hk2, hk1l, hk2l⟩ := hkk hpos; replace hq := And.intro hq (And.intro hk1 hk2); have c1l := (q5 _ (getD_mem (d := rw0) hk1l)).1; have c2l := (q5 _ (getD_mem (d := rw0) hk2l)).1; have s1 := hsm _ (getD_mem (d := rw0) hk1l); have s2 := hsm _ (getD_mem (d := rw0) hk2l); have mb1 := getD_mem (d := rw0) hk1l; have mb2 := getD_mem (d := rw0) hk2l; clear hkk) | skip)
        all_goals
          refine tr_seq fun K9 hK9 => ?_
          refine tr_region [10] rfl rfl fun K hK => ?_
          iterate 2 refine evR_p ?_
          refine evR_e hK ?_; clear hK K
          refine hK9 _ ?_
          refine tr_ret ?_
          (try simp only [thenE, inBlkE])
          simp (maxSteps := 4000000) (disch := first | assumption | omega | (simp only [go_sem, *]; done) | (simp only [go_sem, *]; omega)) only [postA, postO, resV1, fzAll, go_sem, hq, Int.reduceToNat, Nat.reduceBEq, Nat.reduceEqDiff, Nat.reduceAdd, Nat.reduceMul, Nat.reduceLeDiff, Nat.reduceLT, Nat.reduceSub, ↓reduceIte, reduceCtorEq]
          all_goals (rfl)
      · skip
        (first | (exfalso; simp_all; done) | (exfalso; omega) | (have hpos : 0 < M.rows.length := (by omega); obtain ⟨hk1, hk2, hk1l, hk2l⟩ := hkk hpos; replace hq := And.intro hq (And.intro hk1 hk2); have c1l := (q5 _ (getD_mem (d := rw0) hk1l)).1; have c2l := (q5 _ (getD_mem (d := rw0) hk2l)).1; have s1 := hsm _ (getD_mem (d := rw0) hk1l); have s2 := hsm _ (getD_mem (d := rw0) hk2l); have mb1 := getD_mem (d := rw0) hk1l; have mb2 := getD_mem (d := rw0) hk2l; clear hkk) | skip)
        all_goals
          refine tr_skip ?_
          (try simp only [thenE, inBlkE])
          refine hK7 _ ?_
          refine tr_seq fun K10 hK10 => ?_
          refine tr_fz [.ptr 1 0, .ptr 3 0] (by simp (maxSteps := 4000000) (disch := first | assumption | omega | (simp only [go_sem, *]; done) | (simp only [go_sem, *]; omega)) only [go_sem, hq, Int.reduceToNat, Nat.reduceBEq, Nat.reduceEqDiff, Nat.reduceAdd, Nat.reduceMul, Nat.reduceLeDiff, Nat.reduceLT, Nat.reduceSub, ↓reduceIte, reduceCtorEq]; (try rfl)) ?_
          refine tr_draw [38, 39, 40, 42, 43, 45, 46] [8, 9, 11, 12, 13] mixed rfl (by kernel_rfl) rfl fun K hK => ?_
          iterate 7 refine evD_p ?_
          refine evD_c (hc := (c12 _ _ (by omega))) (k := ?_)
          iterate 4 refine evD_p ?_
          refine evD_e hK ?_; clear hK K
          refine hK10 _ ?_
          refine tr_seq fun K11 hK11 => ?_
          refine tr_draw [48, 49, 50, 52, 53, 55, 56] [9, 11, 12, 13, 14] mixed rfl (by kernel_rfl) rfl fun K hK => ?_
          iterate 7 refine evD_p ?_
          refine evD_c (hc := (c12 _ _ (by omega))) (k := ?_)
          iterate 4 refine evD_p ?_
          refine evD_e hK ?_; clear hK K
          refine hK11 _ ?_
          refine tr_seq fun K12 hK12 => ?_
          refine tr_region [9, 11, 12, 13, 14, 15] rfl rfl fun K hK => ?_
          iterate 2 refine evR_p ?_
          refine evR_c (hc := (c12 _ _ (by decide))) (k := ?_)
          refine evR_p ?_
          refine evR_e hK ?_; clear hK K
          refine hK12 _ ?_
          refine tr_seq fun K13 hK13 => ?_
          refine tr_region [11, 12, 13, 14, 15, 16] rfl rfl fun K hK => ?_
          iterate 2 refine evR_p ?_
          refine evR_c (hc := (c12 _ _ (by decide))) (k := ?_)
          refine evR_p ?_
          refine evR_e hK ?_; clear hK K
          refine hK13 _ ?_
          refine tr_seq fun K14 hK14 => ?_
          refine tr_region [11, 12, 13, 14, 15, 16, 17] rfl rfl fun K hK => ?_
          iterate 12 refine evR_p ?_
          refine evR_e hK ?_; clear hK K
          refine hK14 _ ?_
          refine tr_seq fun K15 hK15 => ?_
          refine tr_region [11, 12, 13, 14, 15, 16, 17, 18] rfl rfl fun K hK => ?_
          iterate 8 refine evR_p ?_
          refine evR_e hK ?_; clear hK K
          refine hK15 _ ?_
          refine tr_seq fun K16 hK16 => ?_
          refine tr_seq fun K17 hK17 => ?_
          refine tr_fz [.ptr 4 0, .ptr 5 0] (by simp (maxSteps := 4000000) (disch := first | assumption | omega | (simp only [go_sem, *]; done) | (simp only [go_sem, *]; omega)) only [go_sem, hq, Int.reduceToNat, Nat.reduceBEq, Nat.reduceEqDiff, Nat.reduceAdd, Nat.reduceMul, Nat.reduceLeDiff, Nat.reduceLT, Nat.reduceSub, ↓reduceIte, reduceCtorEq]; (try rfl)) ?_
          refine tr_region [11, 12, 13, 14, 15, 16, 17, 18, 19] rfl rfl fun K hK => ?_
          refine evR_p ?_
          refine evR_e hK ?_; clear hK K
          refine hK17 _ ?_
          refine tr_block ?_
          -- loop 1: live [11, 12, 13, 14, 15, 16, 17, 18, 19]
          refine tr_loopW (fun m σ => ∃ i : Nat, i + m = v ∧ σ = ⟨[(11, .bool true), (12, .ep [.int .i64 M.vars, .sl 6 (encR M.rows), .sl 1 (encI M.gain)]), (13, .ep [.int .i64 (M.rows.getD k1 rw0).kind, .int .i64 (M.rows.getD k1 rw0).a, .int .i64 (M.rows.getD k1 rw0).b, .int .i64 (M.rows.getD k1 rw0).pl, .sl 1 (encI (M.rows.getD k1 rw0).coef), .int .i64 (M.rows.getD k1 rw0).most]), (14, .ep [.int .i64 (M.rows.getD k2 rw0).kind, .int .i64 (M.rows.getD k2 rw0).a, .int .i64 (M.rows.getD k2 rw0).b, .int .i64 (M.rows.getD k2 rw0).pl, .sl 1 (encI (M.rows.getD k2 rw0).coef), .int .i64 (M.rows.getD k2 rw0).most]), (15, .int .i64 (mm : Nat)), (16, .int .i64 (nn : Nat)), (17, .ptr 6 0), (18, .ptr 7 0), (19, .int .i64 (i : Nat))], [(9, .row 3 1 (encI (mulL (mm : Nat) (M.rows.getD k1 rw0).coef i))), (8, .row 3 1 (encI (addL (mm : Nat) (nn : Nat) (M.rows.getD k1 rw0).coef (M.rows.getD k2 rw0).coef i))), (7, .cells [.int .i64 0, .int .i64 0, .int .i64 0, .int .i64 0, .own 9, .int .i64 (mulR (mm : Nat) (M.rows.getD k1 rw0) v).most]), (6, .cells [.int .i64 0, .int .i64 0, .int .i64 0, .int .i64 0, .own 8, .int .i64 (addR (mm : Nat) (nn : Nat) (M.rows.getD k1 rw0) (M.rows.getD k2 rw0) v).most])], 10⟩) (v) ?_ ?_
          · exact ⟨_, Wk.trans (Wk.drop (fun k => k != 0 && k != 2)) (Wk.trans (Wk.nilown 3 1 6 4 rfl (Nat.le_of_ble_eq_true rfl) rfl) (Wk.nilown 3 1 7 4 rfl (Nat.le_of_ble_eq_true rfl) rfl)), 0, by omega, rfl⟩
          · rintro m σ ⟨i, hi, rfl⟩ KL1 hKL1
            refine tr_seq fun K18 hK18 => ?_
            refine tr_seq fun K19 hK19 => ?_
            refine tr_region [11, 12, 13, 14, 15, 16, 17, 18, 19, 82] rfl rfl fun K hK => ?_
            iterate 4 refine evR_p ?_
            refine evR_e hK ?_; clear hK K
            refine hK19 _ ?_
            refine tr_condB (fun ht3 => ?_) (fun ht3 => ?_)
            · skip
              (first | (exfalso; simp_all; done) | (exfalso; omega) | (have hpos : 0 < M.rows.length := (by omega); obtain ⟨hk1, hk2, hk1l, hk2l⟩ := hkk hpos; replace hq := And.intro hq (And.intro hk1 hk2); have c1l := (q5 _ (getD_mem (d := rw0) hk1l)).1; have c2l := (q5 _ (getD_mem (d := rw0) hk2l)).1; have s1 := hsm _ (getD_mem (d := rw0) hk1l); have s2 := hsm _ (getD_mem (d := rw0) hk2l); have mb1 := getD_mem (d := rw0) hk1l; have mb2 := getD_mem (d := rw0) hk2l; clear hkk) | skip)
              all_goals
                have hil : i < v := by omega
                have hi1 : i < (M.rows.getD k1 rw0).coef.length := by omega
                have hi2 : i < (M.rows.getD k2 rw0).coef.length := by omega
                replace hq := And.intro hq (And.intro hil (And.intro hi1 (hi2)))
                refine tr_skip ?_
                (try simp only [thenE, inBlkE])
                refine hK18 _ ?_
                refine tr_seq fun K20 hK20 => ?_
                refine tr_block ?_
                refine tr_seq fun K21 hK21 => ?_
                refine tr_draw [89, 91, 92, 96, 98, 99, 102] [11, 12, 13, 14, 15, 16, 17, 18, 19] mixed rfl (by kernel_rfl) rfl fun K hK => ?_
                iterate 17 refine evD_p ?_
                refine evD_bs ?_
                iterate 3 refine evD_p ?_
                refine evD_e hK ?_; clear hK K
                refine hK21 _ ?_
                refine tr_draw [110, 112, 113, 115] [11, 12, 13, 14, 15, 16, 17, 18, 19] mixed rfl (by kernel_rfl) rfl fun K hK => ?_
                iterate 10 refine evD_p ?_
                refine evD_bs ?_
                iterate 3 refine evD_p ?_
                refine evD_e hK ?_; clear hK K
                refine hK20 _ ?_
                refine tr_region [11, 12, 13, 14, 15, 16, 17, 18, 19] rfl rfl fun K hK => ?_
                iterate 3 refine evR_p ?_
                refine evR_e hK ?_; clear hK K
                refine hKL1 _ ?_
                exact ⟨m - 1, _, by omega, Wk.trans (Wk.ren 11 9 (Nat.le_of_ble_eq_true rfl) (Nat.le_of_ble_eq_true rfl) rfl) (Wk.trans (Wk.ren 10 8 (Nat.le_of_ble_eq_true rfl) (Nat.le_of_ble_eq_true rfl) rfl) (Wk.cut 10 rfl)), i + 1, by omega, by rw [w64 (x := (i : Int) + 1) (by omega), addL_succ, mulL_succ, encI_snoc, encI_snoc]; rfl⟩
            · skip
              (first | (exfalso; simp_all; done) | (exfalso; omega) | (have hpos : 0 < M.rows.length := (by omega); obtain ⟨hk1, hk2, hk1l, hk2l⟩ := hkk hpos; replace hq := And.intro hq (And.intro hk1 hk2); have c1l := (q5 _ (getD_mem (d := rw0) hk1l)).1; have c2l := (q5 _ (getD_mem (d := rw0) hk2l)).1; have s1 := hsm _ (getD_mem (d := rw0) hk1l); have s2 := hsm _ (getD_mem (d := rw0) hk2l); have mb1 := getD_mem (d := rw0) hk1l; have mb2 := getD_mem (d := rw0) hk2l; clear hkk) | skip)
              all_goals
                have hil : v = i := by omega
                subst hil
                refine tr_exit ?_
                simp only [thenE, inBlkE, Nat.reduceEqDiff, ↓reduceIte]
                refine hK16 _ ?_
                refine tr_seq fun K22 hK22 => ?_
                refine tr_fz [.own 8, .own 9] (by simp (maxSteps := 4000000) (disch := first | assumption | omega | (simp only [go_sem, *]; done) | (simp only [go_sem, *]; omega)) only [go_sem, hq, Int.reduceToNat, Nat.reduceBEq, Nat.reduceEqDiff, Nat.reduceAdd, Nat.reduceMul, Nat.reduceLeDiff, Nat.reduceLT, Nat.reduceSub, ↓reduceIte, reduceCtorEq]; (try rfl)) ?_
                refine tr_region [11, 12, 13, 14, 17, 18, 20] rfl rfl fun K hK => ?_
                iterate 3 refine evR_p ?_
                refine evR_e hK ?_; clear hK K
                refine hK22 _ ?_
                refine tr_seq fun K23 hK23 => ?_
                refine tr_region [11, 12, 20] rfl rfl fun K hK => ?_
                iterate 4 refine evR_p ?_
                refine evR_bs ?_
                iterate 2 refine evR_p ?_
                refine evR_e hK ?_; clear hK K
                refine hK23 _ ?_
                refine tr_seq fun K24 hK24 => ?_
                refine tr_seq fun K25 hK25 => ?_
                refine tr_region [11, 12, 20, 21] rfl rfl fun K hK => ?_
                refine evR_p ?_
                refine evR_e hK ?_; clear hK K
                refine hK25 _ ?_
                refine tr_block ?_
                -- loop 2: live [11, 12, 20, 21]
                refine tr_loopW (fun m σ => ∃ s : Nat, s + m = 2 ^ v ∧ σ = ⟨[(11, .bool true), (12, .ep [.int .i64 M.vars, .sl 6 (encR M.rows), .sl 1 (encI M.gain)]), (20, .ptr 10 0), (21, .int .i64 (s : Nat))], [(10, .cells [.int .i64 M.vars, .sl 6 (encR [(M.rows.getD k1 rw0), (M.rows.getD k2 rw0), addR (mm : Nat) (nn : Nat) (M.rows.getD k1 rw0) (M.rows.getD k2 rw0) v, mulR (mm : Nat) (M.rows.getD k1 rw0) v]), .sl 1 (encI M.gain)])], 11⟩) (2 ^ v) ?_ ?_
                · exact ⟨_, Wk.drop (fun k => k == 10), 0, by omega, rfl⟩
                · rintro m2 σ ⟨s, hs, rfl⟩ KL2 hKL2
                  have hqv := addQ_valid hv hv1 (m := (mm : Nat)) (n := (nn : Nat)) (by omega) (by omega) mb1 mb2 s1 s2
                  obtain ⟨wq1, wq2, wq3⟩ := valid_max hqv
                  refine tr_seq fun K26 hK26 => ?_
                  refine tr_seq fun K27 hK27 => ?_
                  refine tr_region [11, 12, 20, 21, 129] rfl rfl fun K hK => ?_
                  iterate 5 refine evR_p ?_
                  refine evR_e hK ?_; clear hK K
                  refine hK27 _ ?_
                  refine tr_condB (fun ht4 => ?_) (fun ht4 => ?_)
                  · skip
                    (first | (exfalso; simp_all; done) | (exfalso; omega) | (have hpos : 0 < M.rows.length := (by omega); obtain ⟨hk1, hk2, hk1l, hk2l⟩ := hkk hpos; replace hq := And.intro hq (And.intro hk1 hk2); have c1l := (q5 _ (getD_mem (d := rw0) hk1l)).1; have c2l := (q5 _ (getD_mem (d := rw0) hk2l)).1; have s1 := hsm _ (getD_mem (d := rw0) hk1l); have s2 := hsm _ (getD_mem (d := rw0) hk2l); have mb1 := getD_mem (d := rw0) hk1l; have mb2 := getD_mem (d := rw0) hk2l; clear hkk) | skip)
                    all_goals
                      have hsl : s < 2 ^ v := by omega
                      have hb4 := brk4 M (mm : Nat) (nn : Nat) (M.rows.getD k1 rw0) (M.rows.getD k2 rw0) v (s : Nat)
                      obtain ⟨hrg, b0, b1, b2, hend, hno⟩ := adds_end hv hv1 (m := (mm : Nat)) (n := (nn : Nat)) (by omega) (by omega) mb1 mb2 s1 s2 hsl
                      replace hq := And.intro hq (hsl)
                      refine tr_skip ?_
                      (try simp only [thenE, inBlkE])
                      refine hK26 _ ?_
                      refine tr_seq fun K28 hK28 => ?_
                      refine tr_block ?_
                      refine tr_seq fun K29 hK29 => ?_
                      refine tr_region [11, 12, 20, 21, 22] rfl rfl fun K hK => ?_
                      iterate 2 refine evR_p ?_
                      refine evR_c (hc := (c26 (addQ M (mm : Nat) (nn : Nat) (M.rows.getD k1 rw0) (M.rows.getD k2 rw0) v) wq1 wq2 wq3 (s : Nat))) (k := ?_)
                      refine evR_p ?_
                      refine evR_e hK ?_; clear hK K
                      refine hK29 _ ?_
                      refine tr_seq fun K30 hK30 => ?_
                      refine tr_region [11, 12, 20, 21, 22, 23] rfl rfl fun K hK => ?_
                      refine evR_p ?_
                      refine evR_e hK ?_; clear hK K
                      refine hK30 _ ?_
                      refine tr_seq fun K31 hK31 => ?_
                      refine tr_seq fun K32 hK32 => ?_
                      refine tr_region [11, 12, 20, 21, 22, 23, 24] rfl rfl fun K hK => ?_
                      refine evR_p ?_
                      refine evR_e hK ?_; clear hK K
                      refine hK32 _ ?_
                      refine tr_block ?_
                      -- loop 3: live [11, 12, 20, 21, 22, 23, 24]
                      refine tr_loopW (fun m σ => ∃ j : Nat, j + m = (brokenW (addQ M (mm : Nat) (nn : Nat) (M.rows.getD k1 rw0) (M.rows.getD k2 rw0) v) (s : Nat)).length ∧ σ = ⟨[(11, .bool true), (12, .ep [.int .i64 M.vars, .sl 6 (encR M.rows), .sl 1 (encI M.gain)]), (20, .ptr 10 0), (21, .int .i64 (s : Nat)), (22, .sl 1 (encI (brokenW (addQ M (mm : Nat) (nn : Nat) (M.rows.getD k1 rw0) (M.rows.getD k2 rw0) v) (s : Nat)))), (23, .ptr 11 0), (24, .int .i64 (j : Nat))], [(11, .cells (cellsB (isTo (brokenW (addQ M (mm : Nat) (nn : Nat) (M.rows.getD k1 rw0) (M.rows.getD k2 rw0) v) (s : Nat)) j))), (10, .cells [.int .i64 M.vars, .sl 6 (encR [(M.rows.getD k1 rw0), (M.rows.getD k2 rw0), addR (mm : Nat) (nn : Nat) (M.rows.getD k1 rw0) (M.rows.getD k2 rw0) v, mulR (mm : Nat) (M.rows.getD k1 rw0) v]), .sl 1 (encI M.gain)])], 12⟩) ((brokenW (addQ M (mm : Nat) (nn : Nat) (M.rows.getD k1 rw0) (M.rows.getD k2 rw0) v) (s : Nat)).length) ?_ ?_
                      · exact ⟨_, Wk.refl _, 0, by omega, rfl⟩
                      · rintro m3 σ ⟨j, hj, rfl⟩ KL3 hKL3
                        refine tr_seq fun K33 hK33 => ?_
                        refine tr_seq fun K34 hK34 => ?_
                        refine tr_region [11, 12, 20, 21, 22, 23, 24, 138] rfl rfl fun K hK => ?_
                        iterate 4 refine evR_p ?_
                        refine evR_e hK ?_; clear hK K
                        refine hK34 _ ?_
                        refine tr_condB (fun ht5 => ?_) (fun ht5 => ?_)
                        · skip
                          (first | (exfalso; simp_all; done) | (exfalso; omega) | (have hpos : 0 < M.rows.length := (by omega); obtain ⟨hk1, hk2, hk1l, hk2l⟩ := hkk hpos; replace hq := And.intro hq (And.intro hk1 hk2); have c1l := (q5 _ (getD_mem (d := rw0) hk1l)).1; have c2l := (q5 _ (getD_mem (d := rw0) hk2l)).1; have s1 := hsm _ (getD_mem (d := rw0) hk1l); have s2 := hsm _ (getD_mem (d := rw0) hk2l); have mb1 := getD_mem (d := rw0) hk1l; have mb2 := getD_mem (d := rw0) hk2l; clear hkk) | skip)
                          all_goals
                            have hjl : j < (brokenW (addQ M (mm : Nat) (nn : Nat) (M.rows.getD k1 rw0) (M.rows.getD k2 rw0) v) (s : Nat)).length := by omega
                            have hjr := hrg j hjl
                            obtain ⟨nj, hnj⟩ := Int.eq_ofNat_of_zero_le hjr.1
                            have hnj3 : nj ≤ 3 := by omega
                            have hlj := isTo_length (brokenW (addQ M (mm : Nat) (nn : Nat) (M.rows.getD k1 rw0) (M.rows.getD k2 rw0) v) (s : Nat)) j
                            replace hq := And.intro hq (And.intro hjl (And.intro hnj (hnj3)))
                            refine tr_skip ?_
                            (try simp only [thenE, inBlkE])
                            refine hK33 _ ?_
                            refine tr_seq fun K35 hK35 => ?_
                            refine tr_block ?_
                            refine tr_seq fun K36 hK36 => ?_
                            refine tr_seq fun K37 hK37 => ?_
                            refine tr_region [11, 12, 20, 21, 22, 23, 24, 152] rfl rfl fun K hK => ?_
                            iterate 6 refine evR_p ?_
                            iterate 5 refine evR_g ?_
                            refine evR_p ?_
                            refine evR_e hK ?_; clear hK K
                            refine hK37 _ ?_
                            refine tr_condB (fun ht6 => ?_) (fun ht6 => ?_)
                            · skip
                              (first | (exfalso; simp_all; done) | (exfalso; omega) | (have hpos : 0 < M.rows.length := (by omega); obtain ⟨hk1, hk2, hk1l, hk2l⟩ := hkk hpos; replace hq := And.intro hq (And.intro hk1 hk2); have c1l := (q5 _ (getD_mem (d := rw0) hk1l)).1; have c2l := (q5 _ (getD_mem (d := rw0) hk2l)).1; have s1 := hsm _ (getD_mem (d := rw0) hk1l); have s2 := hsm _ (getD_mem (d := rw0) hk2l); have mb1 := getD_mem (d := rw0) hk1l; have mb2 := getD_mem (d := rw0) hk2l; clear hkk) | skip)
                              all_goals
                                refine tr_seq fun K38 hK38 => ?_
                                refine tr_region [10] rfl rfl fun K hK => ?_
                                refine evR_p ?_
                                refine evR_e hK ?_; clear hK K
                                refine hK38 _ ?_
                                refine tr_ret ?_
                                (try simp only [thenE, inBlkE])
                                simp (maxSteps := 4000000) (disch := first | assumption | omega | (simp only [go_sem, *]; done) | (simp only [go_sem, *]; omega)) only [postA, postO, resV1, fzAll, go_sem, hq, Int.reduceToNat, Nat.reduceBEq, Nat.reduceEqDiff, Nat.reduceAdd, Nat.reduceMul, Nat.reduceLeDiff, Nat.reduceLT, Nat.reduceSub, ↓reduceIte, reduceCtorEq]
                                all_goals (rfl)
                            · skip
                              (first | (exfalso; simp_all; done) | (exfalso; omega) | (have hpos : 0 < M.rows.length := (by omega); obtain ⟨hk1, hk2, hk1l, hk2l⟩ := hkk hpos; replace hq := And.intro hq (And.intro hk1 hk2); have c1l := (q5 _ (getD_mem (d := rw0) hk1l)).1; have c2l := (q5 _ (getD_mem (d := rw0) hk2l)).1; have s1 := hsm _ (getD_mem (d := rw0) hk1l); have s2 := hsm _ (getD_mem (d := rw0) hk2l); have mb1 := getD_mem (d := rw0) hk1l; have mb2 := getD_mem (d := rw0) hk2l; clear hkk) | skip)
                              all_goals
                                refine tr_skip ?_
                                (try simp only [thenE, inBlkE])
                                refine hK36 _ ?_
                                refine tr_region [11, 12, 20, 21, 22, 23, 24] rfl rfl fun K hK => ?_
                                iterate 6 refine evR_p ?_
                                refine evR_e hK ?_; clear hK K
                                refine hK35 _ ?_
                                refine tr_region [11, 12, 20, 21, 22, 23, 24] rfl rfl fun K hK => ?_
                                iterate 3 refine evR_p ?_
                                refine evR_e hK ?_; clear hK K
                                refine hKL3 _ ?_
                                exact ⟨m3 - 1, _, by omega, Wk.refl _, j + 1, by omega, by rw [w64 (x := (j : Int) + 1) (by omega)]; simp only [isTo, hnj, Int.toNat_natCast]; rfl⟩
                        · skip
                          (first | (exfalso; simp_all; done) | (exfalso; omega) | (have hpos : 0 < M.rows.length := (by omega); obtain ⟨hk1, hk2, hk1l, hk2l⟩ := hkk hpos; replace hq := And.intro hq (And.intro hk1 hk2); have c1l := (q5 _ (getD_mem (d := rw0) hk1l)).1; have c2l := (q5 _ (getD_mem (d := rw0) hk2l)).1; have s1 := hsm _ (getD_mem (d := rw0) hk1l); have s2 := hsm _ (getD_mem (d := rw0) hk2l); have mb1 := getD_mem (d := rw0) hk1l; have mb2 := getD_mem (d := rw0) hk2l; clear hkk) | skip)
                          all_goals
                            have hjl : j = (brokenW (addQ M (mm : Nat) (nn : Nat) (M.rows.getD k1 rw0) (M.rows.getD k2 rw0) v) (s : Nat)).length := by omega
                            subst hjl
                            rw [hend]
                            refine tr_exit ?_
                            simp only [thenE, inBlkE, Nat.reduceEqDiff, ↓reduceIte]
                            refine hK31 _ ?_
                            refine tr_seq fun K39 hK39 => ?_
                            refine tr_region [11, 12, 20, 21, 176] rfl rfl fun K hK => ?_
                            iterate 4 refine evR_p ?_
                            iterate 3 refine evR_g ?_
                            iterate 2 refine evR_p ?_
                            iterate 2 refine evR_g ?_
                            iterate 2 refine evR_p ?_
                            iterate 5 refine evR_g ?_
                            refine evR_p ?_
                            refine evR_e hK ?_; clear hK K
                            refine hK39 _ ?_
                            refine tr_condB (fun ht7 => ?_) (fun ht7 => ?_)
                            · skip
                              (first | (exfalso; simp_all; done) | (exfalso; omega) | (have hpos : 0 < M.rows.length := (by omega); obtain ⟨hk1, hk2, hk1l, hk2l⟩ := hkk hpos; replace hq := And.intro hq (And.intro hk1 hk2); have c1l := (q5 _ (getD_mem (d := rw0) hk1l)).1; have c2l := (q5 _ (getD_mem (d := rw0) hk2l)).1; have s1 := hsm _ (getD_mem (d := rw0) hk1l); have s2 := hsm _ (getD_mem (d := rw0) hk2l); have mb1 := getD_mem (d := rw0) hk1l; have mb2 := getD_mem (d := rw0) hk2l; clear hkk) | skip)
                              all_goals
                                refine tr_seq fun K40 hK40 => ?_
                                refine tr_region [10] rfl rfl fun K hK => ?_
                                refine evR_p ?_
                                refine evR_e hK ?_; clear hK K
                                refine hK40 _ ?_
                                refine tr_ret ?_
                                (try simp only [thenE, inBlkE])
                                simp (maxSteps := 4000000) (disch := first | assumption | omega | (simp only [go_sem, *]; done) | (simp only [go_sem, *]; omega)) only [postA, postO, resV1, fzAll, go_sem, hq, Int.reduceToNat, Nat.reduceBEq, Nat.reduceEqDiff, Nat.reduceAdd, Nat.reduceMul, Nat.reduceLeDiff, Nat.reduceLT, Nat.reduceSub, ↓reduceIte, reduceCtorEq]
                                all_goals (rfl)
                            · skip
                              (first | (exfalso; simp_all; done) | (exfalso; omega) | (have hpos : 0 < M.rows.length := (by omega); obtain ⟨hk1, hk2, hk1l, hk2l⟩ := hkk hpos; replace hq := And.intro hq (And.intro hk1 hk2); have c1l := (q5 _ (getD_mem (d := rw0) hk1l)).1; have c2l := (q5 _ (getD_mem (d := rw0) hk2l)).1; have s1 := hsm _ (getD_mem (d := rw0) hk1l); have s2 := hsm _ (getD_mem (d := rw0) hk2l); have mb1 := getD_mem (d := rw0) hk1l; have mb2 := getD_mem (d := rw0) hk2l; clear hkk) | skip)
                              all_goals
                                refine tr_skip ?_
                                (try simp only [thenE, inBlkE])
                                refine hK28 _ ?_
                                refine tr_region [11, 12, 20, 21] rfl rfl fun K hK => ?_
                                iterate 3 refine evR_p ?_
                                refine evR_e hK ?_; clear hK K
                                refine hKL2 _ ?_
                                exact ⟨m2 - 1, _, by omega, Wk.cut 11 rfl, s + 1, by omega, by rw [w64 (x := (s : Int) + 1) (by omega)]; rfl⟩
                  · skip
                    (first | (exfalso; simp_all; done) | (exfalso; omega) | (have hpos : 0 < M.rows.length := (by omega); obtain ⟨hk1, hk2, hk1l, hk2l⟩ := hkk hpos; replace hq := And.intro hq (And.intro hk1 hk2); have c1l := (q5 _ (getD_mem (d := rw0) hk1l)).1; have c2l := (q5 _ (getD_mem (d := rw0) hk2l)).1; have s1 := hsm _ (getD_mem (d := rw0) hk1l); have s2 := hsm _ (getD_mem (d := rw0) hk2l); have mb1 := getD_mem (d := rw0) hk1l; have mb2 := getD_mem (d := rw0) hk2l; clear hkk) | skip)
                    all_goals
                      refine tr_exit ?_
                      simp only [thenE, inBlkE, Nat.reduceEqDiff, ↓reduceIte]
                      refine hK24 _ ?_
                      refine tr_seq fun K41 hK41 => ?_
                      refine tr_region [10] rfl rfl fun K hK => ?_
                      iterate 2 refine evR_p ?_
                      refine evR_e hK ?_; clear hK K
                      refine hK41 _ ?_
                      refine tr_ret ?_
                      (try simp only [thenE, inBlkE])
                      simp (maxSteps := 4000000) (disch := first | assumption | omega | (simp only [go_sem, *]; done) | (simp only [go_sem, *]; omega)) only [postA, postO, resV1, fzAll, go_sem, hq, Int.reduceToNat, Nat.reduceBEq, Nat.reduceEqDiff, Nat.reduceAdd, Nat.reduceMul, Nat.reduceLeDiff, Nat.reduceLT, Nat.reduceSub, ↓reduceIte, reduceCtorEq]
                      all_goals (rfl)
end

end Go.Proofs.Ytcphhbiehaimeaa

