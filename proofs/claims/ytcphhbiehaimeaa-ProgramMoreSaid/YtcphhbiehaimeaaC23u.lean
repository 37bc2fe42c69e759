import Derived.Test.YtcphhbiehaimeaaF23
import Derived.Test.YtcphhbiehaimeaaAi24
import Derived.Test.YtcphhbiehaimeaaP23
import Derived.Test.YtcphhbiehaimeaaPX23
import Derived.Test.YtcphhbiehaimeaaC23n
import Derived.Test.YtcphhbiehaimeaaC23g
namespace Go.Proofs.Ytcphhbiehaimeaa
open Go.RowKit
set_option linter.unusedVariables false
set_option linter.unusedSimpArgs false
set_option maxRecDepth 100000
attribute [local go_sem] Nat.zero_add Nat.add_zero Nat.mul_one eq_self ne_eq not_true_eq_false not_false_eq_true decide_true decide_false decide_not Bool.false_eq_true List.filter_cons List.filter_nil true_and and_true beq_false beq_true Bool.not_true Bool.not_false Bool.and_true Bool.true_and Option.getD_some Option.getD_none imp_self implies_true Int.toNat_natCast List.cons_append List.nil_append List.map_cons List.map_nil List.length_cons List.length_nil List.getD_cons_zero List.getD_cons_succ List.drop_zero List.drop_succ_cons List.take_succ_cons List.take_zero
attribute [local go_sem] isE isO stpO notIn St.bare evO evDO isEff stp St.get St.slot St.put List.lookup un unL ofVal gof nth pickV pkB_false pkB_true binV unV loadV idxV fldV partV buildV fillV lenV sliV appV appR rowsV winV V.parts V.okp V.sc Mem.look_cons Mem.look_nil V.cl V.clL AObj.clo fzAll exps St.fz Mem.fz V.fz V.fzL AObj.fz Option.isSome_some Option.isSome_none Bool.or_true Bool.true_or Bool.or_false Bool.false_or false_and and_false false_or or_false arT_22 arT_23 arT_24 arT_27 arT_34 arT_35 arT_50 arT_59 arT_61 arT_64 arT_65 arT_68 boolT_24 boolT_3 boolT_38 boolT_4 boolT_79 flatT_24 flatT_3 flatT_38 flatT_4 flatT_79 intT_3 intT_93 lay_23 lay_24 lay_26 lay_27 lay_29 lay_3 lay_32 lay_35 lay_37 lay_4 lay_59 lay_68 lay_70 lay_79 lay_82 lay_88 okF_10 okF_11 okF_12 okF_13 okF_14 okF_15 okF_16 okF_17 okF_18 okF_19 okF_20 okF_21 okF_22 okF_23 okF_24 okF_25 okF_26 okF_27 okF_28 okF_29 okF_3 okF_30 okF_31 okF_32 okF_33 okF_34 okF_35 okF_36 okF_37 okF_38 okF_39 okF_4 okF_40 okF_41 okF_42 okF_43 okF_44 okF_45 okF_46 okF_47 okF_48 okF_49 okF_5 okF_50 okF_51 okF_52 okF_53 okF_54 okF_55 okF_56 okF_57 okF_58 okF_59 okF_6 okF_60 okF_61 okF_62 okF_63 okF_64 okF_65 okF_66 okF_67 okF_68 okF_69 okF_7 okF_70 okF_71 okF_72 okF_73 okF_74 okF_75 okF_8 okF_9 plT_26 plT_29 plT_37 plT_70 plT_79 slT_22 slT_23 slT_24 slT_27 slT_34 slT_35 slT_50 slT_59 slT_61 slT_64 slT_65 slT_68 stT_26_0 stT_26_1 stT_26_2 stT_26_3 stT_26_4 stT_26_5 stT_29_0 stT_29_1 stT_29_2 stT_37_0 stT_37_1 stT_37_2 stT_37_3 stT_70_0 stT_70_1 stT_70_2 stT_70_3 stT_79_0 stT_79_1 zeroT_24 zeroT_26 zeroT_29 zeroT_3 zeroT_32 zeroT_35 zeroT_37 zeroT_59 zeroT_65 zeroT_70 zeroT_79
attribute [local go_sem] List.getElem?_cons_zero List.getElem?_cons_succ List.zip_cons_cons List.zip_nil_left List.zip_nil_right Bool.false_and Bool.and_false List.length_append List.length_set List.length_replicate List.all_cons List.all_nil encI_length encI_getD encR_length encR_getD encRw encPg spl shp AObj.shp rowM isSt isRpS isRd csh AObj.csh forall_const imp_self
attribute [local simp] encI_length encR_length cellsI_length
section
attribute [local go_sem] encSol cellsI_fzL List.replicate_zero encT_length cellsI_length cellsI_getD cellsI_sc cellsI_cl cellsI_winT cellsI_take encR_app encR_one List.nil_append
set_option maxHeartbeats 16000000 in
theorem c6 (a : Int) (x : List T3) (g : List Int) (ha : okI a) (hxl : x.length ≤ maxLen) (hx : ∀ t ∈ x, okT t) (hgl : g.length = 8) (hg : ∀ c ∈ g, okI c) (mo : T3) (bits : Int) (hmo : okT mo) (hbi : okI bits) : CallsA Try.prog 6 [.int .i64 a, .sl 3 (encT x), .agg (cellsI g), .agg [.int .i64 mo.p, .int .i64 mo.q, .int .i64 mo.r], .int .i64 bits] (.bool true) := by
  obtain ⟨M, hM⟩ : ∃ M, madeW a x g = M := ⟨_, rfl⟩
  have hv : validB M = true := hM ▸ made_valid ha hx hg
  have hr8 : M.rows.length ≤ 8 := hM ▸ made_rows a x g
  have hc11 := c11 a x g ha hxl hgl
  rw [hM] at hc11
  obtain ⟨ml1, ml2, ml3⟩ := valid_max hv
  obtain ⟨v, hv1, hv2, hv3, hv4⟩ := vars_pow hv
  have hv5 : shlW .i64 1 M.vars = ((2 ^ v : Nat) : Int) := by rw [hv1]; exact hv3
  obtain ⟨q0, q1, q2, q3, q4, q5⟩ := validB_all hv
  have ss1 : (solveW M).found = true → 0 ≤ (solveW M).set ∧ (solveW M).set < ((2 ^ v : Nat) : Int) := (solve_set hv hv1).1
  have ss0 : (solveW M).found = false → (solveW M).set = 0 ∧ (solveW M).gain = 0 := (solve_set hv hv1).2
  have hc11b := c11 a [mo] g ha (by simp [maxLen]) hgl
  have hve : validB (madeW a [mo] g) = true := made_valid ha (by intro t ht; rw [List.mem_singleton] at ht; subst ht; exact hmo) hg
  obtain ⟨hE1, hE2⟩ := made_one (v := a) (t := mo) (g := g)
  have hE3 : M.vars = pickW a 9 := hM ▸ rfl
  obtain ⟨E, hE⟩ : ∃ E, madeW a [mo] g = E := ⟨_, rfl⟩
  rw [hE] at hc11b hve hE1 hE2
  obtain ⟨er, her⟩ : ∃ er, E.rows.getD 0 rw0 = er := ⟨_, rfl⟩
  have hre : rightB er M.vars = true := by
    obtain ⟨-, -, -, -, -, h5⟩ := validB_all hve
    obtain ⟨k1, k2, k3⟩ := h5 _ (getD_mem (d := rw0) (i := 0) (by omega))
    rw [her] at k1 k2 k3
    simp only [rightB, Bool.and_eq_true, decide_eq_true_eq, isInB_spec]; exact ⟨by omega, k2, k3⟩
  have hvq := more_valid hv hre (by omega)
  obtain ⟨u1, u2, u3⟩ := valid_max hvq
  obtain ⟨-, -, -, -, -, hq5⟩ := validB_all hvq
  have hel : er.coef.length ≤ maxLen := u3 er (by simp [moreP])
  have hvw := without_valid hv (bitL (pickW bits 256) M.rows.length)
  obtain ⟨w1, w2, w3⟩ := valid_max hvw
  have hbl := bitL_length (pickW bits 256) M.rows.length
  obtain ⟨hbs, hbr⟩ := bitL_lt (pickW bits 256) M.rows.length
  have hok := okRows_of hv hbs hbr
  have hwv := wthV_t hok hv
  have hcount := keepTo_count (p := M) (b := pickW bits 256) (m := M.rows.length) (Nat.le_refl _)
  have hcnt : IntKind.i64.wrap ((M.rows.length : Int) - ((bitL (pickW bits 256) M.rows.length).length : Nat)) = (((withoutW M (bitL (pickW bits 256) M.rows.length)).rows.length : Nat) : Int) := by rw [w64 (by omega)]; simp only [withoutW]; omega
  have hms := more_solve hv (r := er)
  have hca := (choice_max hv).2
  have hcb := (choice_max hvq).2
  have hcc := (choice_max hvw).2
  have hend := more_end M er
  have hq := And.intro hv5 (And.intro hgl (And.intro her (And.intro hE1 (hcnt))))
  refine callsA_of_tr Try.func6 rfl (Nat.le_of_ble_eq_true rfl) ?_
  simp only [Try.results6, envOf, Nat.reduceAdd]
  refine tr_seq fun K1 hK1 => ?_
  refine tr_region [0, 1, 4, 7, 8] rfl rfl fun K hK => ?_
  iterate 3 refine evR_p ?_
  refine evR_e hK ?_; clear hK K
  refine hK1 _ ?_
  refine tr_seq fun K2 hK2 => ?_
  refine tr_region [0, 1, 4, 7, 8, 11] rfl rfl fun K hK => ?_
  refine evR_c (hc := c10) (k := ?_)
  refine evR_p ?_
  refine evR_e hK ?_; clear hK K
  refine hK2 _ ?_
  refine tr_seq fun K3 hK3 => ?_
  refine tr_seq fun K4 hK4 => ?_
  refine tr_region [0, 1, 4, 7, 8, 11, 34] rfl rfl fun K hK => ?_
  iterate 2 refine evR_p ?_
  refine evR_e hK ?_; clear hK K
  refine hK4 _ ?_
  refine tr_condB (fun ht1 => ?_) (fun ht1 => ?_)
  · skip
    (first | (exfalso; omega) | (exfalso; simp_all; done) | skip)
    all_goals
      refine tr_seq fun K5 hK5 => ?_
      refine tr_region [10] rfl rfl fun K hK => ?_
      refine evR_p ?_
      refine evR_e hK ?_; clear hK K
      refine hK5 _ ?_
      refine tr_ret ?_
      (try simp only [thenE, inBlkE])
      simp (maxSteps := 4000000) (disch := first | assumption | omega | (simp only [go_sem, *]; done) | (simp only [go_sem, *]; omega)) only [postA, postO, resV1, fzAll, go_sem, hq, Int.reduceToNat, Nat.reduceBEq, Nat.reduceEqDiff, Nat.reduceAdd, Nat.reduceMul, Nat.reduceLeDiff, Nat.reduceLT, Nat.reduceSub, ↓reduceIte, reduceCtorEq]
      all_goals ((simp only [hend]; first | (simp; done) | (cases hf : (solveW (moreP M er)).found <;> simp_all)))
  · skip
    (first | (exfalso; omega) | (exfalso; simp_all; done) | skip)
    all_goals
      refine tr_skip ?_
      (try simp only [thenE, inBlkE])
      refine hK3 _ ?_
      refine tr_seq fun K6 hK6 => ?_
      refine tr_region [0, 4, 7, 8, 11, 12] rfl rfl fun K hK => ?_
      iterate 3 refine evR_p ?_
      refine evR_c (hc := hc11) (k := ?_)
      iterate 2 refine evR_p ?_
      refine evR_e hK ?_; clear hK K
      refine hK6 _ ?_
      refine tr_seq fun K7 hK7 => ?_
      refine tr_region [4, 11, 12, 13] rfl rfl fun K hK => ?_
      iterate 2 refine evR_p ?_
      refine evR_bs ?_
      refine evR_p ?_
      refine evR_c (hc := hc11b) (k := ?_)
      iterate 5 refine evR_p ?_
      refine evR_e hK ?_; clear hK K
      refine hK7 _ ?_
      refine tr_seq fun K8 hK8 => ?_
      refine tr_region [4, 11, 12, 13, 14] rfl rfl fun K hK => ?_
      iterate 3 refine evR_p ?_
      refine evR_e hK ?_; clear hK K
      refine hK8 _ ?_
      refine tr_seq fun K9 hK9 => ?_
      refine tr_fz [.ptr 2 0, .ptr 3 0] (by simp (maxSteps := 4000000) (disch := first | assumption | omega | (simp only [go_sem, *]; done) | (simp only [go_sem, *]; omega)) only [go_sem, hq, Int.reduceToNat, Nat.reduceBEq, Nat.reduceEqDiff, Nat.reduceAdd, Nat.reduceMul, Nat.reduceLeDiff, Nat.reduceLT, Nat.reduceSub, ↓reduceIte, reduceCtorEq]; (try rfl)) ?_
      refine tr_draw [50, 52, 53] [4, 11, 12, 13, 14] mixed rfl (by kernel_rfl) rfl fun K hK => ?_
      refine evD_bo ?_
      iterate 4 refine evD_p ?_
      refine evD_bs ?_
      iterate 3 refine evD_p ?_
      refine evD_e hK ?_; clear hK K
      refine hK9 _ ?_
      refine tr_seq fun K10 hK10 => ?_
      refine tr_region [4, 11, 12, 13, 14, 15] rfl rfl fun K hK => ?_
      refine evR_p ?_
      refine evR_e hK ?_; clear hK K
      refine hK10 _ ?_
      refine tr_seq fun K11 hK11 => ?_
      refine tr_seq fun K12 hK12 => ?_
      refine tr_region [4, 11, 12, 13, 14, 15, 16] rfl rfl fun K hK => ?_
      refine evR_p ?_
      refine evR_e hK ?_; clear hK K
      refine hK12 _ ?_
      refine tr_block ?_
      -- loop 1: live [4, 11, 12, 13, 14, 15, 16]
      refine tr_loopW (fun m σ => ∃ i : Nat, i + m = M.rows.length ∧ σ = ⟨[(4, .int .i64 bits), (11, .bool true), (12, .ep [.int .i64 M.vars, .sl 6 (encR M.rows), .sl 1 (encI M.gain)]), (13, .ep [.int .i64 er.kind, .int .i64 er.a, .int .i64 er.b, .int .i64 er.pl, .sl 1 (encI er.coef), .int .i64 er.most]), (14, .ptr 4 0), (15, .own 8), (16, .int .i64 (i : Nat))], [(8, .row 3 1 (encI (bitL (pickW bits 256) i))), (7, .row 26 6 (encR (M.rows ++ [er]))), (4, .cells [.int .i64 M.vars, .own 7, .sl 1 (encI M.gain)])], 9⟩) (M.rows.length) ?_ ?_
      · exact ⟨_, Wk.trans (Wk.drop (fun k => k != 0 && k != 1)) (Wk.nilslot 3 1 15 rfl), 0, by omega, rfl⟩
      · rintro m σ ⟨i, hi, rfl⟩ KL1 hKL1
        refine tr_seq fun K13 hK13 => ?_
        refine tr_seq fun K14 hK14 => ?_
        refine tr_region [4, 11, 12, 13, 14, 15, 16, 60] rfl rfl fun K hK => ?_
        iterate 5 refine evR_p ?_
        refine evR_e hK ?_; clear hK K
        refine hK14 _ ?_
        refine tr_condB (fun ht2 => ?_) (fun ht2 => ?_)
        · skip
          (first | (exfalso; omega) | (exfalso; simp_all; done) | skip)
          all_goals
            have hil : i < M.rows.length := by omega
            have hbli := bitL_length (pickW bits 256) i
            replace hq := And.intro hq (hil)
            refine tr_skip ?_
            (try simp only [thenE, inBlkE])
            refine hK13 _ ?_
            refine tr_seq fun K15 hK15 => ?_
            refine tr_block ?_
            refine tr_seq fun K16 hK16 => ?_
            refine tr_region [4, 11, 12, 13, 14, 15, 16, 68] rfl rfl fun K hK => ?_
            refine evR_p ?_
            refine evR_c (hc := (c12 _ _ (by decide))) (k := ?_)
            iterate 4 refine evR_p ?_
            refine evR_e hK ?_; clear hK K
            refine hK16 _ ?_
            refine tr_condB (fun ht3 => ?_) (fun ht3 => ?_)
            · skip
              (first | (exfalso; omega) | (exfalso; simp_all; done) | skip)
              all_goals
                refine tr_region [4, 11, 12, 13, 14, 15, 16] rfl rfl fun K hK => ?_
                iterate 2 refine evR_p ?_
                refine evR_bs ?_
                iterate 2 refine evR_p ?_
                refine evR_e hK ?_; clear hK K
                refine hK15 _ ?_
                refine tr_region [4, 11, 12, 13, 14, 15, 16] rfl rfl fun K hK => ?_
                iterate 3 refine evR_p ?_
                refine evR_e hK ?_; clear hK K
                refine hKL1 _ ?_
                first
                  | exact ⟨m - 1, _, by omega, Wk.refl _, i + 1, by omega, by rw [w64 (x := (i : Int) + 1) (by omega), bitL_f (by assumption)]; rfl⟩
                  | exact ⟨m - 1, _, by omega, (Wk.trans (Wk.ren 9 8 (Nat.le_of_ble_eq_true rfl) (Nat.le_of_ble_eq_true rfl) rfl) (Wk.cut 9 rfl)), i + 1, by omega, by rw [w64 (x := (i : Int) + 1) (by omega), bitL_t (by assumption), encI_snoc]; rfl⟩
            · skip
              (first | (exfalso; omega) | (exfalso; simp_all; done) | skip)
              all_goals
                refine tr_skip ?_
                (try simp only [thenE, inBlkE])
                refine hK15 _ ?_
                refine tr_region [4, 11, 12, 13, 14, 15, 16] rfl rfl fun K hK => ?_
                iterate 3 refine evR_p ?_
                refine evR_e hK ?_; clear hK K
                refine hKL1 _ ?_
                first
                  | exact ⟨m - 1, _, by omega, Wk.refl _, i + 1, by omega, by rw [w64 (x := (i : Int) + 1) (by omega), bitL_f (by assumption)]; rfl⟩
                  | exact ⟨m - 1, _, by omega, (Wk.trans (Wk.ren 9 8 (Nat.le_of_ble_eq_true rfl) (Nat.le_of_ble_eq_true rfl) rfl) (Wk.cut 9 rfl)), i + 1, by omega, by rw [w64 (x := (i : Int) + 1) (by omega), bitL_t (by assumption), encI_snoc]; rfl⟩
        · skip
          (first | (exfalso; omega) | (exfalso; simp_all; done) | skip)
          all_goals
            have hil : i = M.rows.length := by omega
            subst hil
            refine tr_exit ?_
            simp only [thenE, inBlkE, Nat.reduceEqDiff, ↓reduceIte]
            refine hK11 _ ?_
            refine tr_seq fun K17 hK17 => ?_
            refine tr_region [11, 12, 13, 14, 15, 17, 18] rfl rfl fun K hK => ?_
            iterate 2 refine evR_p ?_
            refine evR_c (hc := (hwv ▸ c30 M ml1 ml2 ml3 (bitL (pickW bits 256) M.rows.length) (by simp only [maxLen]; omega))) (k := ?_)
            iterate 6 refine evR_p ?_
            refine evR_e hK ?_; clear hK K
            refine hK17 _ ?_
            refine tr_seq fun K18 hK18 => ?_
            refine tr_region [11, 12, 13, 14, 15, 17, 18, 19, 20] rfl rfl fun K hK => ?_
            refine evR_p ?_
            refine evR_c (hc := (c16 M ml1 ml2 ml3 hv)) (k := ?_)
            iterate 5 refine evR_p ?_
            refine evR_e hK ?_; clear hK K
            refine hK18 _ ?_
            refine tr_seq fun K19 hK19 => ?_
            refine tr_fz [.own 7] (by simp (maxSteps := 4000000) (disch := first | assumption | omega | (simp only [go_sem, *]; done) | (simp only [go_sem, *]; omega)) only [go_sem, hq, Int.reduceToNat, Nat.reduceBEq, Nat.reduceEqDiff, Nat.reduceAdd, Nat.reduceMul, Nat.reduceLeDiff, Nat.reduceLT, Nat.reduceSub, ↓reduceIte, reduceCtorEq]; (try rfl)) ?_
            refine tr_region [11, 12, 13, 14, 15, 17, 18, 19, 20, 21, 22] rfl rfl fun K hK => ?_
            refine evR_p ?_
            refine evR_c (hc := (c16 (moreP M er) u1 u2 u3 hvq)) (k := ?_)
            iterate 5 refine evR_p ?_
            refine evR_e hK ?_; clear hK K
            refine hK19 _ ?_
            refine tr_seq fun K20 hK20 => ?_
            refine tr_region [11, 12, 13, 14, 15, 17, 18, 19, 20, 21, 22, 23, 24] rfl rfl fun K hK => ?_
            refine evR_p ?_
            refine evR_c (hc := (c16 (withoutW M (bitL (pickW bits 256) M.rows.length)) w1 w2 w3 hvw)) (k := ?_)
            iterate 5 refine evR_p ?_
            refine evR_e hK ?_; clear hK K
            refine hK20 _ ?_
            refine tr_seq fun K21 hK21 => ?_
            refine tr_region [11, 12, 13, 14, 15, 17, 18, 19, 20, 21, 22, 23, 24, 25, 26] rfl rfl fun K hK => ?_
            refine evR_p ?_
            refine evR_c (hc := (c14 M ml1 ml2 ml3 hv)) (k := ?_)
            iterate 6 refine evR_p ?_
            refine evR_e hK ?_; clear hK K
            refine hK21 _ ?_
            refine tr_seq fun K22 hK22 => ?_
            refine tr_region [11, 12, 13, 15, 17, 18, 19, 20, 21, 22, 23, 24, 25, 26, 27, 28] rfl rfl fun K hK => ?_
            refine evR_p ?_
            refine evR_c (hc := (c14 (moreP M er) u1 u2 u3 hvq)) (k := ?_)
            iterate 6 refine evR_p ?_
            refine evR_e hK ?_; clear hK K
            refine hK22 _ ?_
            refine tr_seq fun K23 hK23 => ?_
            refine tr_seq fun K24 hK24 => ?_
            refine tr_region [11, 13, 19, 21, 23, 25, 27, 137] rfl rfl fun K hK => ?_
            iterate 3 refine evR_p ?_
            iterate 2 refine evR_g ?_
            iterate 2 refine evR_p ?_
            iterate 2 refine evR_g ?_
            iterate 2 refine evR_p ?_
            iterate 2 refine evR_g ?_
            iterate 2 refine evR_p ?_
            iterate 2 refine evR_g ?_
            iterate 2 refine evR_p ?_
            iterate 2 refine evR_g ?_
            iterate 2 refine evR_p ?_
            iterate 10 refine evR_g ?_
            refine evR_p ?_
            refine evR_e hK ?_; clear hK K
            refine hK24 _ ?_
            refine tr_condB (fun ht4 => ?_) (fun ht4 => ?_)
            · skip
              (first | (exfalso; omega) | (exfalso; simp_all; done) | skip)
              all_goals
                refine tr_seq fun K25 hK25 => ?_
                refine tr_region [10] rfl rfl fun K hK => ?_
                refine evR_p ?_
                refine evR_e hK ?_; clear hK K
                refine hK25 _ ?_
                refine tr_ret ?_
                (try simp only [thenE, inBlkE])
                simp (maxSteps := 4000000) (disch := first | assumption | omega | (simp only [go_sem, *]; done) | (simp only [go_sem, *]; omega)) only [postA, postO, resV1, fzAll, go_sem, hq, Int.reduceToNat, Nat.reduceBEq, Nat.reduceEqDiff, Nat.reduceAdd, Nat.reduceMul, Nat.reduceLeDiff, Nat.reduceLT, Nat.reduceSub, ↓reduceIte, reduceCtorEq]
                all_goals ((simp only [hend]; first | (simp; done) | (cases hf : (solveW (moreP M er)).found <;> simp_all)))
            · skip
              (first | (exfalso; omega) | (exfalso; simp_all; done) | skip)
              all_goals
                refine tr_skip ?_
                (try simp only [thenE, inBlkE])
                refine hK23 _ ?_
                refine tr_seq fun K26 hK26 => ?_
                refine tr_region [11, 13, 19, 21, 23, 25, 27, 29] rfl rfl fun K hK => ?_
                refine evR_p ?_
                refine evR_e hK ?_; clear hK K
                refine hK26 _ ?_
                refine tr_seq fun K27 hK27 => ?_
                refine tr_region [11, 13, 19, 21, 23, 25, 27, 29, 30] rfl rfl fun K hK => ?_
                refine evR_p ?_
                refine evR_e hK ?_; clear hK K
                refine hK27 _ ?_
                refine tr_seq fun K28 hK28 => ?_
                refine tr_seq fun K29 hK29 => ?_
                refine tr_region [11, 13, 19, 21, 23, 25, 27, 29, 30, 31] rfl rfl fun K hK => ?_
                refine evR_p ?_
                refine evR_e hK ?_; clear hK K
                refine hK29 _ ?_
                refine tr_block ?_
                -- loop 2: live [11, 13, 19, 21, 23, 25, 27, 29, 30, 31]
                refine tr_loopW (fun m σ => ∃ k wd : Nat, k + m = (choiceL M).length ∧ wd ≤ (choiceL (withoutW M (bitL (pickW bits 256) M.rows.length))).length ∧ (∀ j, j < wd → ∀ k2, k ≤ k2 → k2 < (choiceL M).length → (choiceL (withoutW M (bitL (pickW bits 256) M.rows.length))).getD j 0 < (choiceL M).getD k2 0) ∧ σ = ⟨[(11, .bool true), (13, .ep [.int .i64 er.kind, .int .i64 er.a, .int .i64 er.b, .int .i64 er.pl, .sl 1 (encI er.coef), .int .i64 er.most]), (19, .sl 1 (encI (choiceL M))), (21, .sl 1 (encI (choiceL (moreP M er)))), (23, .sl 1 (encI (choiceL (withoutW M (bitL (pickW bits 256) M.rows.length))))), (25, .ptr 10 0), (27, .ptr 11 0), (29, .int .i64 ((cntK er (choiceL M) k).length : Nat)), (30, .int .i64 (wd : Nat)), (31, .int .i64 (k : Nat))], [(11, .cells [.bool (solveW (moreP M er)).found, .int .i64 (solveW (moreP M er)).set, .int .i64 (solveW (moreP M er)).gain, .sl 4 (encS (solveW (moreP M er)).proof)]), (10, .cells [.bool (solveW M).found, .int .i64 (solveW M).set, .int .i64 (solveW M).gain, .sl 4 (encS (solveW M).proof)])], 12⟩) ((choiceL M).length) ?_ ?_
                · exact ⟨_, Wk.drop (fun k => k == 10 || k == 11), 0, 0, by omega, by omega, (by intro j hj; omega), rfl⟩
                · rintro m2 σ ⟨k, wd, hk, hwd, hlt, rfl⟩ KL2 hKL2
                  refine tr_seq fun K30 hK30 => ?_
                  refine tr_seq fun K31 hK31 => ?_
                  refine tr_region [11, 13, 19, 21, 23, 25, 27, 29, 30, 31, 141] rfl rfl fun K hK => ?_
                  iterate 4 refine evR_p ?_
                  refine evR_e hK ?_; clear hK K
                  refine hK31 _ ?_
                  refine tr_condB (fun ht5 => ?_) (fun ht5 => ?_)
                  · skip
                    (first | (exfalso; omega) | (exfalso; simp_all; done) | skip)
                    all_goals
                      have hkl : k < (choiceL M).length := by omega
                      obtain ⟨hpre, hskip⟩ := more_at hv hv1 hre (by omega) hkl
                      have hkm := without_more (bitL (pickW bits 256) M.rows.length) (getD_mem (d := 0) hkl)
                      have hsrt := choice_srt M
                      replace hq := And.intro hq (hkl)
                      refine tr_skip ?_
                      (try simp only [thenE, inBlkE])
                      refine hK30 _ ?_
                      refine tr_seq fun K32 hK32 => ?_
                      refine tr_block ?_
                      refine tr_seq fun K33 hK33 => ?_
                      refine tr_block ?_
                      -- loop 3: live [11, 13, 19, 21, 23, 25, 27, 29, 30, 31]
                      refine tr_loopW (fun m σ => ∃ w2 : Nat, w2 + m = (choiceL (withoutW M (bitL (pickW bits 256) M.rows.length))).length ∧ (∀ j, j < w2 → (choiceL (withoutW M (bitL (pickW bits 256) M.rows.length))).getD j 0 < (choiceL M).getD k 0) ∧ σ = ⟨[(11, .bool true), (13, .ep [.int .i64 er.kind, .int .i64 er.a, .int .i64 er.b, .int .i64 er.pl, .sl 1 (encI er.coef), .int .i64 er.most]), (19, .sl 1 (encI (choiceL M))), (21, .sl 1 (encI (choiceL (moreP M er)))), (23, .sl 1 (encI (choiceL (withoutW M (bitL (pickW bits 256) M.rows.length))))), (25, .ptr 10 0), (27, .ptr 11 0), (29, .int .i64 ((cntK er (choiceL M) k).length : Nat)), (30, .int .i64 (w2 : Nat)), (31, .int .i64 (k : Nat))], [(11, .cells [.bool (solveW (moreP M er)).found, .int .i64 (solveW (moreP M er)).set, .int .i64 (solveW (moreP M er)).gain, .sl 4 (encS (solveW (moreP M er)).proof)]), (10, .cells [.bool (solveW M).found, .int .i64 (solveW M).set, .int .i64 (solveW M).gain, .sl 4 (encS (solveW M).proof)])], 12⟩) (((choiceL (withoutW M (bitL (pickW bits 256) M.rows.length))).length - wd)) ?_ ?_
                      · exact ⟨_, Wk.norm _ [11, 13, 19, 21, 23, 25, 27, 29, 30, 31], wd, by omega, (fun j hj => hlt j hj k (Nat.le_refl _) hkl), rfl⟩
                      · rintro m3 σ ⟨w2, hw, hw2, rfl⟩ KL3 hKL3
                        refine tr_seq fun K34 hK34 => ?_
                        refine tr_seq fun K35 hK35 => ?_
                        refine tr_draw [] [11, 13, 19, 21, 23, 25, 27, 29, 30, 31, 158] mixed rfl (by kernel_rfl) rfl fun K hK => ?_
                        iterate 5 refine evD_p ?_
                        iterate 9 refine evD_g ?_
                        refine evD_p ?_
                        refine evD_e hK ?_; clear hK K
                        refine hK35 _ ?_
                        refine tr_condB (fun ht6 => ?_) (fun ht6 => ?_)
                        · skip
                          (first | (exfalso; omega) | (exfalso; simp_all; done) | skip)
                          all_goals
                            refine tr_skip ?_
                            (try simp only [thenE, inBlkE])
                            refine hK34 _ ?_
                            refine tr_block ?_
                            refine tr_region [11, 13, 19, 21, 23, 25, 27, 29, 30, 31] rfl rfl fun K hK => ?_
                            iterate 3 refine evR_p ?_
                            refine evR_e hK ?_; clear hK K
                            refine hKL3 _ ?_
                            exact ⟨m3 - 1, _, by omega, Wk.refl _, w2 + 1, by omega, (fun j hj => by rcases Nat.lt_or_ge j w2 with h | h; exact hw2 j h; (have : j = w2 := (by omega)); subst this; omega), by rw [w64 (x := (w2 : Int) + 1) (by omega)]; rfl⟩
                        · skip
                          (first | (exfalso; omega) | (exfalso; simp_all; done) | skip)
                          all_goals
                            have hmg := merge_at (choice_srt _) hw2 hkm (by first | (simp only [decide_eq_true_eq, Bool.and_eq_true] at *; omega) | (intro h; simp_all; done) | (intro h; omega))
                            obtain ⟨e1, e2⟩ := hmg
                            refine tr_exit ?_
                            simp only [thenE, inBlkE, Nat.reduceEqDiff, ↓reduceIte]
                            refine hK33 _ ?_
                            refine tr_seq fun K36 hK36 => ?_
                            refine tr_seq fun K37 hK37 => ?_
                            refine tr_region [11, 13, 19, 21, 23, 25, 27, 29, 30, 31, 164] rfl rfl fun K hK => ?_
                            iterate 4 refine evR_p ?_
                            refine evR_e hK ?_; clear hK K
                            refine hK37 _ ?_
                            refine tr_condB (fun ht7 => ?_) (fun ht7 => ?_)
                            · skip
                              (first | (exfalso; omega) | (exfalso; simp_all; done) | skip)
                              all_goals
                                refine tr_seq fun K38 hK38 => ?_
                                refine tr_region [10] rfl rfl fun K hK => ?_
                                refine evR_p ?_
                                refine evR_e hK ?_; clear hK K
                                refine hK38 _ ?_
                                refine tr_ret ?_
                                (try simp only [thenE, inBlkE])
                                simp (maxSteps := 4000000) (disch := first | assumption | omega | (simp only [go_sem, *]; done) | (simp only [go_sem, *]; omega)) only [postA, postO, resV1, fzAll, go_sem, hq, Int.reduceToNat, Nat.reduceBEq, Nat.reduceEqDiff, Nat.reduceAdd, Nat.reduceMul, Nat.reduceLeDiff, Nat.reduceLT, Nat.reduceSub, ↓reduceIte, reduceCtorEq]
                                all_goals ((simp only [hend]; first | (simp; done) | (cases hf : (solveW (moreP M er)).found <;> simp_all)))
                            · skip
                              (first | (exfalso; omega) | (exfalso; simp_all; done) | skip)
                              all_goals
                                refine tr_skip ?_
                                (try simp only [thenE, inBlkE])
                                refine hK36 _ ?_
                                refine tr_seq fun K39 hK39 => ?_
                                refine tr_seq fun K40 hK40 => ?_
                                refine tr_draw [] [11, 13, 19, 21, 23, 25, 27, 29, 30, 31, 173] mixed rfl (by kernel_rfl) rfl fun K hK => ?_
                                iterate 9 refine evD_p ?_
                                refine evD_e hK ?_; clear hK K
                                refine hK40 _ ?_
                                refine tr_condB (fun ht8 => ?_) (fun ht8 => ?_)
                                · skip
                                  (first | (exfalso; omega) | (exfalso; simp_all; done) | skip)
                                  all_goals
                                    refine tr_seq fun K41 hK41 => ?_
                                    refine tr_region [10] rfl rfl fun K hK => ?_
                                    refine evR_p ?_
                                    refine evR_e hK ?_; clear hK K
                                    refine hK41 _ ?_
                                    refine tr_ret ?_
                                    (try simp only [thenE, inBlkE])
                                    simp (maxSteps := 4000000) (disch := first | assumption | omega | (simp only [go_sem, *]; done) | (simp only [go_sem, *]; omega)) only [postA, postO, resV1, fzAll, go_sem, hq, Int.reduceToNat, Nat.reduceBEq, Nat.reduceEqDiff, Nat.reduceAdd, Nat.reduceMul, Nat.reduceLeDiff, Nat.reduceLT, Nat.reduceSub, ↓reduceIte, reduceCtorEq]
                                    all_goals ((simp only [hend]; first | (simp; done) | (cases hf : (solveW (moreP M er)).found <;> simp_all)))
                                · skip
                                  (first | (exfalso; omega) | (exfalso; simp_all; done) | skip)
                                  all_goals
                                    refine tr_skip ?_
                                    (try simp only [thenE, inBlkE])
                                    refine hK39 _ ?_
                                    refine tr_seq fun K42 hK42 => ?_
                                    refine tr_seq fun K43 hK43 => ?_
                                    refine tr_draw [] [11, 13, 19, 21, 23, 25, 27, 29, 30, 31, 182] mixed rfl (by kernel_rfl) rfl fun K hK => ?_
                                    iterate 5 refine evD_p ?_
                                    refine evD_c (hc := (c28 er hel _)) (k := ?_)
                                    iterate 3 refine evD_p ?_
                                    refine evD_e hK ?_; clear hK K
                                    refine hK43 _ ?_
                                    refine tr_condB (fun ht9 => ?_) (fun ht9 => ?_)
                                    · skip
                                      (first | (exfalso; omega) | (exfalso; simp_all; done) | skip)
                                      all_goals
                                        refine tr_exit ?_
                                        simp only [thenE, inBlkE, Nat.reduceEqDiff, ↓reduceIte]
                                        refine hK32 _ ?_
                                        refine tr_region [11, 13, 19, 21, 23, 25, 27, 29, 30, 31] rfl rfl fun K hK => ?_
                                        iterate 3 refine evR_p ?_
                                        refine evR_e hK ?_; clear hK K
                                        refine hKL2 _ ?_
                                        have hlt2 : ∀ j, j < w2 → ∀ k2, k + 1 ≤ k2 → k2 < (choiceL M).length → (choiceL (withoutW M (bitL (pickW bits 256) M.rows.length))).getD j 0 < (choiceL M).getD k2 0 := fun j hj k2 h1 h2 => Int.lt_trans (hw2 j hj) (hsrt k k2 (by omega) h2)
                                        first
                                          | exact ⟨m2 - 1, _, by omega, Wk.refl _, k + 1, w2, by omega, by omega, hlt2, by rw [w64 (x := (k : Int) + 1) (by omega), hskip (by assumption)]; rfl⟩
                                          | exact ⟨m2 - 1, _, by omega, Wk.refl _, k + 1, w2, by omega, by omega, hlt2, by obtain ⟨-, -, h3⟩ := hpre (by assumption); rw [w64 (x := (k : Int) + 1) (by omega), h3, w64 (x := (((cntK er (choiceL M) k).length : Nat) : Int) + 1) (by omega)]; rfl⟩
                                    · skip
                                      (first | (exfalso; omega) | (exfalso; simp_all; done) | skip)
                                      all_goals
                                        refine tr_skip ?_
                                        (try simp only [thenE, inBlkE])
                                        refine hK42 _ ?_
                                        refine tr_seq fun K44 hK44 => ?_
                                        refine tr_seq fun K45 hK45 => ?_
                                        refine tr_region [11, 13, 19, 21, 23, 25, 27, 29, 30, 31, 186] rfl rfl fun K hK => ?_
                                        iterate 4 refine evR_p ?_
                                        refine evR_e hK ?_; clear hK K
                                        refine hK45 _ ?_
                                        refine tr_condB (fun ht10 => ?_) (fun ht10 => ?_)
                                        · skip
                                          (first | (exfalso; omega) | (exfalso; simp_all; done) | skip)
                                          all_goals
                                            refine tr_seq fun K46 hK46 => ?_
                                            refine tr_region [10] rfl rfl fun K hK => ?_
                                            refine evR_p ?_
                                            refine evR_e hK ?_; clear hK K
                                            refine hK46 _ ?_
                                            refine tr_ret ?_
                                            (try simp only [thenE, inBlkE])
                                            simp (maxSteps := 4000000) (disch := first | assumption | omega | (simp only [go_sem, *]; done) | (simp only [go_sem, *]; omega)) only [postA, postO, resV1, fzAll, go_sem, hq, Int.reduceToNat, Nat.reduceBEq, Nat.reduceEqDiff, Nat.reduceAdd, Nat.reduceMul, Nat.reduceLeDiff, Nat.reduceLT, Nat.reduceSub, ↓reduceIte, reduceCtorEq]
                                            all_goals ((simp only [hend]; first | (simp; done) | (cases hf : (solveW (moreP M er)).found <;> simp_all)))
                                        · skip
                                          (first | (exfalso; omega) | (exfalso; simp_all; done) | skip)
                                          all_goals
                                            refine tr_skip ?_
                                            (try simp only [thenE, inBlkE])
                                            refine hK44 _ ?_
                                            refine tr_seq fun K47 hK47 => ?_
                                            refine tr_seq fun K48 hK48 => ?_
                                            refine tr_draw [] [11, 13, 19, 21, 23, 25, 27, 29, 30, 31, 195] mixed rfl (by kernel_rfl) rfl fun K hK => ?_
                                            iterate 9 refine evD_p ?_
                                            refine evD_e hK ?_; clear hK K
                                            refine hK48 _ ?_
                                            refine tr_condB (fun ht11 => ?_) (fun ht11 => ?_)
                                            · skip
                                              (first | (exfalso; omega) | (exfalso; simp_all; done) | skip)
                                              all_goals
                                                refine tr_seq fun K49 hK49 => ?_
                                                refine tr_region [10] rfl rfl fun K hK => ?_
                                                refine evR_p ?_
                                                refine evR_e hK ?_; clear hK K
                                                refine hK49 _ ?_
                                                refine tr_ret ?_
                                                (try simp only [thenE, inBlkE])
                                                simp (maxSteps := 4000000) (disch := first | assumption | omega | (simp only [go_sem, *]; done) | (simp only [go_sem, *]; omega)) only [postA, postO, resV1, fzAll, go_sem, hq, Int.reduceToNat, Nat.reduceBEq, Nat.reduceEqDiff, Nat.reduceAdd, Nat.reduceMul, Nat.reduceLeDiff, Nat.reduceLT, Nat.reduceSub, ↓reduceIte, reduceCtorEq]
                                                all_goals ((simp only [hend]; first | (simp; done) | (cases hf : (solveW (moreP M er)).found <;> simp_all)))
                                            · skip
                                              (first | (exfalso; omega) | (exfalso; simp_all; done) | skip)
                                              all_goals
                                                refine tr_skip ?_
                                                (try simp only [thenE, inBlkE])
                                                refine hK47 _ ?_
                                                refine tr_region [11, 13, 19, 21, 23, 25, 27, 29, 30, 31] rfl rfl fun K hK => ?_
                                                iterate 3 refine evR_p ?_
                                                refine evR_e hK ?_; clear hK K
                                                refine hK32 _ ?_
                                                refine tr_region [11, 13, 19, 21, 23, 25, 27, 29, 30, 31] rfl rfl fun K hK => ?_
                                                iterate 3 refine evR_p ?_
                                                refine evR_e hK ?_; clear hK K
                                                refine hKL2 _ ?_
                                                have hlt2 : ∀ j, j < w2 → ∀ k2, k + 1 ≤ k2 → k2 < (choiceL M).length → (choiceL (withoutW M (bitL (pickW bits 256) M.rows.length))).getD j 0 < (choiceL M).getD k2 0 := fun j hj k2 h1 h2 => Int.lt_trans (hw2 j hj) (hsrt k k2 (by omega) h2)
                                                first
                                                  | exact ⟨m2 - 1, _, by omega, Wk.refl _, k + 1, w2, by omega, by omega, hlt2, by rw [w64 (x := (k : Int) + 1) (by omega), hskip (by assumption)]; rfl⟩
                                                  | exact ⟨m2 - 1, _, by omega, Wk.refl _, k + 1, w2, by omega, by omega, hlt2, by obtain ⟨-, -, h3⟩ := hpre (by assumption); rw [w64 (x := (k : Int) + 1) (by omega), h3, w64 (x := (((cntK er (choiceL M) k).length : Nat) : Int) + 1) (by omega)]; rfl⟩
                  · skip
                    (first | (exfalso; omega) | (exfalso; simp_all; done) | skip)
                    all_goals
                      have hkl : k = (choiceL M).length := by omega
                      subst hkl
                      refine tr_exit ?_
                      simp only [thenE, inBlkE, Nat.reduceEqDiff, ↓reduceIte]
                      refine hK28 _ ?_
                      refine tr_seq fun K50 hK50 => ?_
                      refine tr_region [10] rfl rfl fun K hK => ?_
                      iterate 2 refine evR_p ?_
                      iterate 4 refine evR_g ?_
                      iterate 2 refine evR_p ?_
                      iterate 14 refine evR_g ?_
                      iterate 2 refine evR_p ?_
                      refine evR_e hK ?_; clear hK K
                      refine hK50 _ ?_
                      refine tr_ret ?_
                      (try simp only [thenE, inBlkE])
                      simp (maxSteps := 4000000) (disch := first | assumption | omega | (simp only [go_sem, *]; done) | (simp only [go_sem, *]; omega)) only [postA, postO, resV1, fzAll, go_sem, hq, Int.reduceToNat, Nat.reduceBEq, Nat.reduceEqDiff, Nat.reduceAdd, Nat.reduceMul, Nat.reduceLeDiff, Nat.reduceLT, Nat.reduceSub, ↓reduceIte, reduceCtorEq]
                      all_goals ((simp only [hend]; first | (simp; done) | (cases hf : (solveW (moreP M er)).found <;> simp_all)))
end

end Go.Proofs.Ytcphhbiehaimeaa

