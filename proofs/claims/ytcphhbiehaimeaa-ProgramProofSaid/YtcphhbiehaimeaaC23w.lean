import Derived.Test.YtcphhbiehaimeaaF23
import Derived.Test.YtcphhbiehaimeaaAi24
import Derived.Test.YtcphhbiehaimeaaP23
import Derived.Test.YtcphhbiehaimeaaPY23
import Derived.Test.YtcphhbiehaimeaaC23n
import Derived.Test.YtcphhbiehaimeaaC23g
import Derived.Test.YtcphhbiehaimeaaC23v
namespace Go.Proofs.Ytcphhbiehaimeaa
open Go.RowKit
set_option linter.unusedVariables false
set_option linter.unusedSimpArgs false
set_option maxRecDepth 100000
attribute [local go_sem] Nat.zero_add Nat.add_zero Nat.mul_one eq_self ne_eq not_true_eq_false not_false_eq_true decide_true decide_false decide_not Bool.false_eq_true List.filter_cons List.filter_nil true_and and_true beq_false beq_true Bool.not_true Bool.not_false Bool.and_true Bool.true_and Option.getD_some Option.getD_none imp_self implies_true Int.toNat_natCast List.cons_append List.nil_append List.map_cons List.map_nil List.length_cons List.length_nil List.getD_cons_zero List.getD_cons_succ List.drop_zero List.drop_succ_cons List.take_succ_cons List.take_zero
attribute [local go_sem] isE isO stpO notIn St.bare evO evDO isEff stp St.get St.slot St.put List.lookup un unL ofVal gof nth pickV pkB_false pkB_true binV unV loadV idxV fldV partV buildV fillV lenV sliV appV appR rowsV winV V.parts V.okp V.sc Mem.look_cons Mem.look_nil V.cl V.clL AObj.clo fzAll exps St.fz Mem.fz V.fz V.fzL AObj.fz Option.isSome_some Option.isSome_none Bool.or_true Bool.true_or Bool.or_false Bool.false_or false_and and_false false_or or_false arT_22 arT_23 arT_24 arT_27 arT_34 arT_35 arT_50 arT_59 arT_61 arT_64 arT_65 arT_68 boolT_24 boolT_3 boolT_38 boolT_4 boolT_79 flatT_24 flatT_3 flatT_38 flatT_4 flatT_79 intT_3 intT_93 lay_23 lay_24 lay_26 lay_27 lay_29 lay_3 lay_32 lay_35 lay_37 lay_4 lay_59 lay_68 lay_70 lay_79 lay_82 lay_88 okF_10 okF_11 okF_12 okF_13 okF_14 okF_15 okF_16 okF_17 okF_18 okF_19 okF_20 okF_21 okF_22 okF_23 okF_24 okF_25 okF_26 okF_27 okF_28 okF_29 okF_3 okF_30 okF_31 okF_32 okF_33 okF_34 okF_35 okF_36 okF_37 okF_38 okF_39 okF_4 okF_40 okF_41 okF_42 okF_43 okF_44 okF_45 okF_46 okF_47 okF_48 okF_49 okF_5 okF_50 okF_51 okF_52 okF_53 okF_54 okF_55 okF_56 okF_57 okF_58 okF_59 okF_6 okF_60 okF_61 okF_62 okF_63 okF_64 okF_65 okF_66 okF_67 okF_68 okF_69 okF_7 okF_70 okF_71 okF_72 okF_73 okF_74 okF_75 okF_8 okF_9 plT_26 plT_29 plT_37 plT_70 plT_79 slT_22 slT_23 slT_24 slT_27 slT_34 slT_35 slT_50 slT_59 slT_61 slT_64 slT_65 slT_68 stT_26_0 stT_26_1 stT_26_2 stT_26_3 stT_26_4 stT_26_5 stT_29_0 stT_29_1 stT_29_2 stT_37_0 stT_37_1 stT_37_2 stT_37_3 stT_70_0 stT_70_1 stT_70_2 stT_70_3 stT_79_0 stT_79_1 zeroT_24 zeroT_26 zeroT_29 zeroT_3 zeroT_32 zeroT_35 zeroT_37 zeroT_59 zeroT_65 zeroT_70 zeroT_79
attribute [local go_sem] List.getElem?_cons_zero List.getElem?_cons_succ List.zip_cons_cons List.zip_nil_left List.zip_nil_right Bool.false_and Bool.and_false List.length_append List.length_set List.length_replicate List.all_cons List.all_nil encI_length encI_getD encR_length encR_getD encRw encPg spl shp AObj.shp rowM isSt isRpS isRd csh AObj.csh forall_const imp_self
attribute [local simp] encI_length encR_length cellsI_length
section
attribute [local go_sem] encSol cellsI_fzL List.replicate_zero encT_length cellsI_length cellsI_getD cellsI_sc cellsI_cl cellsI_winT cellsI_take encS_length encR_one List.nil_append
set_option maxHeartbeats 8000000 in
theorem c5 (a : Int) (x : List T3) (g : List Int) (ha : okI a) (hxl : x.length ≤ maxLen) (hx : ∀ t ∈ x, okT t) (hgl : g.length = 8) (hg : ∀ c ∈ g, okI c) : CallsA Try.prog 5 [.int .i64 a, .sl 3 (encT x), .agg (cellsI g)] (.bool true) := by
  obtain ⟨M, hM⟩ : ∃ M, madeW a x g = M := ⟨_, rfl⟩
  have hv : validB M = true := hM ▸ made_valid ha hx hg
  have hr8 : M.rows.length ≤ 8 := hM ▸ made_rows a x g
  have hc11 := c11 a x g ha hxl hgl
  rw [hM] at hc11
  obtain ⟨ml1, ml2, ml3⟩ := valid_max hv
  obtain ⟨v, hv1, hv2, hv3, hv4⟩ := vars_pow hv
  have hv5 : shlW .i64 1 M.vars = ((2 ^ v : Nat) : Int) := by rw [hv1]; exact hv3
  obtain ⟨q0, q1, q2, q3, q4, q5⟩ := validB_all hv
  have ss1 : (solveW M).found = true → 0 ≤ (solveW M).set ∧ (solveW M).set < ((2 ^ v : Nat) : Int) := (solve_set hv hv1).1
  have ss0 : (solveW M).found = false → (solveW M).set = 0 ∧ (solveW M).gain = 0 := (solve_set hv hv1).2
  have hT : ∀ rows2 : List Rw, okRws rows2 v → (∀ r ∈ rows2, okI r.most) → rows2.length = (solRows M (solveB M)).length → CallsA Try.prog 34 [.sl 6 (encR rows2), .sl 4 (encS (solveW M).proof), .int .i64 0, .sl 1 (encI (List.replicate M.vars.toNat (-1)))] (.bool (treeB rows2 (solRows M (solveB M)) v v 0 0)) := fun rows2 h1 h2 h3 => by
    have hi := solve_inf hv
    have hl := layT_grow (solRows M (solveB M)) M.vars.toNat 0 0 [] (by omega) (by simp)
    have hn := growN_length (solRows M (solveB M)) M.vars.toNat 0 0 []
    have hp : 2 ^ (M.vars.toNat + 1) ≤ 2 ^ 13 := Nat.pow_le_pow_right (by omega) (by omega)
    have hsl : (solRows M (solveB M)).length ≤ 301 := by
      unfold solRows; split
      · rw [List.length_append]; simp; omega
      · omega
    have := c34 rows2 (solRows M (solveB M)) v hv2 h1 h2 h3 (by omega) (solveW M).proof (by simp only [maxLen]; show (growN _ _ _ _ _).length ≤ _; simp only [List.length_nil] at hn; omega) v 0 0 0 (by omega) (by simp) (by rw [hv1] at hi; simpa using hi) (by rw [hv1] at hl; simpa [solveW, hv1] using hl)
    rw [decL_0] at this
    rw [show M.vars.toNat = v by omega]
    exact this
  have hov : ∀ g0, okRws (M.rows ++ [goalW M g0]) v := fun g0 => by have := okRws_goal hv g0; rwa [show M.vars.toNat = v by omega] at this
  have hG : -12000000000 ≤ (solveW M).gain ∧ (solveW M).gain ≤ 12000000000 := by
    cases hf : (solveW M).found with
    | false => have := (ss0 hf).2; omega
    | true => obtain ⟨s, -, -, -, h1, h2⟩ := solveB_gain hv hf; exact ⟨h1, h2⟩
  have hom : ∀ g0 : Int, -20000000000 ≤ g0 → g0 ≤ 20000000000 → ∀ r ∈ M.rows ++ [goalW M g0], okI r.most := fun g0 h1 h2 r hr => by
    unfold okI
    rcases List.mem_append.1 hr with hr | hr
    · have := (q5 r hr).2.2; omega
    · rw [List.mem_singleton] at hr; subst hr; rw [goal_most (by omega)]; omega
  have hT0 : (solveW M).found = false → CallsA Try.prog 34 [.sl 6 (encR M.rows), .sl 4 (encS (solveW M).proof), .int .i64 0, .sl 1 (encI (List.replicate M.vars.toNat (-1)))] (.bool true) := fun hf => by
    have h := hT M.rows (fun r hr => hov 0 r (List.mem_append_left _ hr)) (fun r hr => hom 0 (by omega) (by omega) r (List.mem_append_left _ hr)) (by rw [solRows_f hf])
    have h2 := proof_refutes hv hv1
    rw [solRows_f hf] at h h2
    rwa [h2] at h
  have hT1 : (solveW M).found = true → CallsA Try.prog 34 [.sl 6 (encR (M.rows ++ [goalW M (solveW M).gain])), .sl 4 (encS (solveW M).proof), .int .i64 0, .sl 1 (encI (List.replicate M.vars.toNat (-1)))] (.bool true) := fun hf => by
    have h := hT (M.rows ++ [goalW M (solveW M).gain]) (hov _) (hom _ (by omega) (by omega)) (by rw [solRows_t hf, List.length_append, List.length_append]; rfl)
    have h2 := proof_refutes hv hv1
    rw [solRows_t hf] at h h2
    rwa [show goalW M (solveW M).gain = goalW M (solveB M).2.2 from rfl, h2] at h
  have hT2 : (solveW M).found = true → CallsA Try.prog 34 [.sl 6 (encR (M.rows ++ [goalW M ((solveW M).gain - 1)])), .sl 4 (encS (solveW M).proof), .int .i64 0, .sl 1 (encI (List.replicate M.vars.toNat (-1)))] (.bool false) := fun hf => by
    have h := hT (M.rows ++ [goalW M ((solveW M).gain - 1)]) (hov _) (hom _ (by omega) (by omega)) (by rw [solRows_t hf, List.length_append, List.length_append]; rfl)
    have h2 := proof_less hv hv1 hf
    rwa [show goalW M ((solveW M).gain - 1) = goalW M ((solveB M).2.2 - 1) from rfl, h2] at h
  have hG1 : IntKind.i64.wrap ((solveW M).gain - 1) = (solveW M).gain - 1 := w64 (by omega)
  have h35a := c35 M (by omega) (solveW M).gain
  have h35b := c35 M (by omega) ((solveW M).gain - 1)
  rw [goalR_eq (by omega)] at h35a h35b
  have hpl : (solveW M).proof.length ≤ 8192 := by
    have hn := growN_length (solRows M (solveB M)) M.vars.toNat 0 0 []
    have hp : 2 ^ (M.vars.toNat + 1) ≤ 2 ^ 13 := Nat.pow_le_pow_right (by omega) (by omega)
    show (growN _ _ _ _ _).length ≤ _
    simp only [List.length_nil] at hn; omega
  have hq := And.intro hv5 (And.intro hgl (hG1))
  refine callsA_of_tr Try.func5 rfl (Nat.le_of_ble_eq_true rfl) ?_
  simp only [Try.results5, envOf, Nat.reduceAdd]
  refine tr_seq fun K1 hK1 => ?_
  refine tr_region [0, 1, 5] rfl rfl fun K hK => ?_
  iterate 2 refine evR_p ?_
  refine evR_e hK ?_; clear hK K
  refine hK1 _ ?_
  refine tr_seq fun K2 hK2 => ?_
  refine tr_region [0, 1, 5, 7] rfl rfl fun K hK => ?_
  refine evR_c (hc := c10) (k := ?_)
  refine evR_p ?_
  refine evR_e hK ?_; clear hK K
  refine hK2 _ ?_
  refine tr_seq fun K3 hK3 => ?_
  refine tr_seq fun K4 hK4 => ?_
  refine tr_region [0, 1, 5, 7, 16] rfl rfl fun K hK => ?_
  iterate 2 refine evR_p ?_
  refine evR_e hK ?_; clear hK K
  refine hK4 _ ?_
  refine tr_condB (fun ht1 => ?_) (fun ht1 => ?_)
  · skip
    (first | (exfalso; omega) | (exfalso; simp_all; done) | skip)
    all_goals
      refine tr_seq fun K5 hK5 => ?_
      refine tr_region [6] rfl rfl fun K hK => ?_
      refine evR_p ?_
      refine evR_e hK ?_; clear hK K
      refine hK5 _ ?_
      refine tr_ret ?_
      (try simp only [thenE, inBlkE])
      simp (maxSteps := 4000000) (disch := first | assumption | omega | (simp only [go_sem, *]; done) | (simp only [go_sem, *]; omega)) only [postA, postO, resV1, fzAll, go_sem, hq, Int.reduceToNat, Nat.reduceBEq, Nat.reduceEqDiff, Nat.reduceAdd, Nat.reduceMul, Nat.reduceLeDiff, Nat.reduceLT, Nat.reduceSub, ↓reduceIte, reduceCtorEq]
      all_goals (rfl)
  · skip
    (first | (exfalso; omega) | (exfalso; simp_all; done) | skip)
    all_goals
      refine tr_skip ?_
      (try simp only [thenE, inBlkE])
      refine hK3 _ ?_
      refine tr_seq fun K6 hK6 => ?_
      refine tr_region [7, 8] rfl rfl fun K hK => ?_
      iterate 3 refine evR_p ?_
      refine evR_c (hc := hc11) (k := ?_)
      iterate 2 refine evR_p ?_
      refine evR_e hK ?_; clear hK K
      refine hK6 _ ?_
      refine tr_seq fun K7 hK7 => ?_
      refine tr_region [7, 8, 9, 10] rfl rfl fun K hK => ?_
      refine evR_p ?_
      refine evR_c (hc := (c14 M ml1 ml2 ml3 hv)) (k := ?_)
      iterate 6 refine evR_p ?_
      refine evR_e hK ?_; clear hK K
      refine hK7 _ ?_
      refine tr_seq fun K8 hK8 => ?_
      refine tr_seq fun K9 hK9 => ?_
      refine tr_region [7, 8, 9, 33] rfl rfl fun K hK => ?_
      iterate 3 refine evR_p ?_
      iterate 4 refine evR_g ?_
      refine evR_p ?_
      refine evR_e hK ?_; clear hK K
      refine hK9 _ ?_
      refine tr_condB (fun ht2 => ?_) (fun ht2 => ?_)
      · skip
        (first | (exfalso; omega) | (exfalso; simp_all; done) | skip)
        all_goals
          refine tr_seq fun K10 hK10 => ?_
          refine tr_region [6] rfl rfl fun K hK => ?_
          refine evR_p ?_
          refine evR_e hK ?_; clear hK K
          refine hK10 _ ?_
          refine tr_ret ?_
          (try simp only [thenE, inBlkE])
          simp (maxSteps := 4000000) (disch := first | assumption | omega | (simp only [go_sem, *]; done) | (simp only [go_sem, *]; omega)) only [postA, postO, resV1, fzAll, go_sem, hq, Int.reduceToNat, Nat.reduceBEq, Nat.reduceEqDiff, Nat.reduceAdd, Nat.reduceMul, Nat.reduceLeDiff, Nat.reduceLT, Nat.reduceSub, ↓reduceIte, reduceCtorEq]
          all_goals (rfl)
      · skip
        (first | (exfalso; omega) | (exfalso; simp_all; done) | skip)
        all_goals
          refine tr_skip ?_
          (try simp only [thenE, inBlkE])
          refine hK8 _ ?_
          refine tr_seq fun K11 hK11 => ?_
          refine tr_region [7, 8, 9, 11] rfl rfl fun K hK => ?_
          refine evR_p ?_
          refine evR_c (hc := (c33 M (by omega))) (k := ?_)
          refine evR_p ?_
          refine evR_e hK ?_; clear hK K
          refine hK11 _ ?_
          refine tr_seq fun K12 hK12 => ?_
          refine tr_seq fun K13 hK13 => ?_
          refine tr_region [7, 8, 9, 11, 38] rfl rfl fun K hK => ?_
          iterate 3 refine evR_p ?_
          refine evR_e hK ?_; clear hK K
          refine hK13 _ ?_
          refine tr_condB (fun ht3 => ?_) (fun ht3 => ?_)
          · skip
            (first | (exfalso; omega) | (exfalso; simp_all; done) | skip)
            all_goals
              refine tr_seq fun K14 hK14 => ?_
              refine tr_region [6] rfl rfl fun K hK => ?_
              iterate 2 refine evR_p ?_
              iterate 5 refine evR_g ?_
              refine evR_gc (hc := (hT0 (by assumption))) (k := ?_)
              iterate 2 refine evR_p ?_
              refine evR_e hK ?_; clear hK K
              refine hK14 _ ?_
              refine tr_ret ?_
              (try simp only [thenE, inBlkE])
              simp (maxSteps := 4000000) (disch := first | assumption | omega | (simp only [go_sem, *]; done) | (simp only [go_sem, *]; omega)) only [postA, postO, resV1, fzAll, go_sem, hq, Int.reduceToNat, Nat.reduceBEq, Nat.reduceEqDiff, Nat.reduceAdd, Nat.reduceMul, Nat.reduceLeDiff, Nat.reduceLT, Nat.reduceSub, ↓reduceIte, reduceCtorEq]
              all_goals (rfl)
          · skip
            (first | (exfalso; omega) | (exfalso; simp_all; done) | skip)
            all_goals
              refine tr_skip ?_
              (try simp only [thenE, inBlkE])
              refine hK12 _ ?_
              refine tr_seq fun K15 hK15 => ?_
              refine tr_fz [.ptr 1 0, .ptr 2 0] (by simp (maxSteps := 4000000) (disch := first | assumption | omega | (simp only [go_sem, *]; done) | (simp only [go_sem, *]; omega)) only [go_sem, hq, Int.reduceToNat, Nat.reduceBEq, Nat.reduceEqDiff, Nat.reduceAdd, Nat.reduceMul, Nat.reduceLeDiff, Nat.reduceLT, Nat.reduceSub, ↓reduceIte, reduceCtorEq]; (try rfl)) ?_
              refine tr_draw [50, 52, 54, 56] [7, 8, 9, 11, 12] mixed rfl (by kernel_rfl) rfl fun K hK => ?_
              refine evD_bo ?_
              iterate 6 refine evD_p ?_
              refine evD_c (hc := h35a) (k := ?_)
              refine evD_bs ?_
              iterate 2 refine evD_p ?_
              refine evD_e hK ?_; clear hK K
              refine hK15 _ ?_
              refine tr_seq fun K16 hK16 => ?_
              refine tr_draw [60, 62, 64, 67] [7, 9, 11, 12, 13] mixed rfl (by kernel_rfl) rfl fun K hK => ?_
              refine evD_bo ?_
              iterate 7 refine evD_p ?_
              refine evD_c (hc := h35b) (k := ?_)
              refine evD_bs ?_
              iterate 2 refine evD_p ?_
              refine evD_e hK ?_; clear hK K
              refine hK16 _ ?_
              refine tr_seq fun K17 hK17 => ?_
              refine tr_fz [.own 5, .own 8] (by simp (maxSteps := 4000000) (disch := first | assumption | omega | (simp only [go_sem, *]; done) | (simp only [go_sem, *]; omega)) only [go_sem, hq, Int.reduceToNat, Nat.reduceBEq, Nat.reduceEqDiff, Nat.reduceAdd, Nat.reduceMul, Nat.reduceLeDiff, Nat.reduceLT, Nat.reduceSub, ↓reduceIte, reduceCtorEq]; (try rfl)) ?_
              refine tr_region [6] rfl rfl fun K hK => ?_
              iterate 2 refine evR_p ?_
              iterate 4 refine evR_g ?_
              refine evR_gc (hc := (hT1 (by assumption))) (k := ?_)
              iterate 2 refine evR_p ?_
              iterate 4 refine evR_g ?_
              refine evR_gc (hc := (hT2 (by assumption))) (k := ?_)
              refine evR_g ?_
              iterate 2 refine evR_p ?_
              refine evR_e hK ?_; clear hK K
              refine hK17 _ ?_
              refine tr_ret ?_
              (try simp only [thenE, inBlkE])
              simp (maxSteps := 4000000) (disch := first | assumption | omega | (simp only [go_sem, *]; done) | (simp only [go_sem, *]; omega)) only [postA, postO, resV1, fzAll, go_sem, hq, Int.reduceToNat, Nat.reduceBEq, Nat.reduceEqDiff, Nat.reduceAdd, Nat.reduceMul, Nat.reduceLeDiff, Nat.reduceLT, Nat.reduceSub, ↓reduceIte, reduceCtorEq]
              all_goals (rfl)
end

end Go.Proofs.Ytcphhbiehaimeaa

