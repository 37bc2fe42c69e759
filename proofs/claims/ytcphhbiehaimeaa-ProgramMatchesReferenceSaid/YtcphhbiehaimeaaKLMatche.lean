/- Texts of this proof, put together. -/
import Derived.Test.YtcphhbiehaimeaaKLMatchc
import Derived.Test.YtcphhbiehaimeaaKLMatchb
import Derived.Test.YtcphhbiehaimeaaKLMatchd
namespace Go.Proofs.Ytcphhbiehaimeaa
open Go.RowKit
set_option linter.unusedVariables false
set_option linter.unusedSimpArgs false
set_option maxRecDepth 100000
attribute [local go_sem] Nat.zero_add Nat.add_zero Nat.mul_one eq_self ne_eq not_true_eq_false not_false_eq_true decide_true decide_false decide_not Bool.false_eq_true List.filter_cons List.filter_nil true_and and_true beq_false beq_true Bool.not_true Bool.not_false Bool.and_true Bool.true_and Option.getD_some Option.getD_none imp_self implies_true Int.toNat_natCast List.cons_append List.nil_append List.map_cons List.map_nil List.length_cons List.length_nil List.getD_cons_zero List.getD_cons_succ List.drop_zero List.drop_succ_cons List.take_succ_cons List.take_zero
attribute [local go_sem] isE isO stpO notIn St.bare evO evDO isEff stp St.get St.slot St.put List.lookup un unL ofVal gof nth pickV pkB_false pkB_true binV unV loadV idxV fldV partV buildV fillV lenV sliV appV appR rowsV winV V.parts V.okp V.sc Mem.look_cons Mem.look_nil V.cl V.clL AObj.clo fzAll exps St.fz Mem.fz V.fz V.fzL AObj.fz Option.isSome_some Option.isSome_none Bool.or_true Bool.true_or Bool.or_false Bool.false_or false_and and_false false_or or_false arT_22 arT_23 arT_24 arT_27 arT_34 arT_35 arT_50 arT_59 arT_61 arT_64 arT_65 arT_68 boolT_24 boolT_3 boolT_38 boolT_4 boolT_79 flatT_24 flatT_3 flatT_38 flatT_4 flatT_79 intT_3 intT_93 lay_23 lay_24 lay_26 lay_27 lay_29 lay_3 lay_32 lay_35 lay_37 lay_4 lay_59 lay_68 lay_70 lay_79 lay_82 lay_88 okF_10 okF_11 okF_12 okF_13 okF_14 okF_15 okF_16 okF_17 okF_18 okF_19 okF_20 okF_21 okF_22 okF_23 okF_24 okF_25 okF_26 okF_27 okF_28 okF_29 okF_3 okF_30 okF_31 okF_32 okF_33 okF_34 okF_35 okF_36 okF_37 okF_38 okF_39 okF_4 okF_40 okF_41 okF_42 okF_43 okF_44 okF_45 okF_46 okF_47 okF_48 okF_49 okF_5 okF_50 okF_51 okF_52 okF_53 okF_54 okF_55 okF_56 okF_57 okF_58 okF_59 okF_6 okF_60 okF_61 okF_62 okF_63 okF_64 okF_65 okF_66 okF_67 okF_68 okF_69 okF_7 okF_70 okF_71 okF_72 okF_73 okF_74 okF_75 okF_8 okF_9 plT_26 plT_29 plT_37 plT_70 plT_79 slT_22 slT_23 slT_24 slT_27 slT_34 slT_35 slT_50 slT_59 slT_61 slT_64 slT_65 slT_68 stT_26_0 stT_26_1 stT_26_2 stT_26_3 stT_26_4 stT_26_5 stT_29_0 stT_29_1 stT_29_2 stT_37_0 stT_37_1 stT_37_2 stT_37_3 stT_70_0 stT_70_1 stT_70_2 stT_70_3 stT_79_0 stT_79_1 zeroT_24 zeroT_26 zeroT_29 zeroT_3 zeroT_32 zeroT_35 zeroT_37 zeroT_59 zeroT_65 zeroT_70 zeroT_79
attribute [local go_sem] List.getElem?_cons_zero List.getElem?_cons_succ List.zip_cons_cons List.zip_nil_left List.zip_nil_right Bool.false_and Bool.and_false List.length_append List.length_set List.length_replicate List.all_cons List.all_nil encI_length encI_getD encR_length encR_getD encRw encPg spl shp AObj.shp rowM isSt isRpS isRd csh AObj.csh forall_const imp_self
attribute [local simp] encI_length encR_length cellsI_length
section
attribute [local go_sem] encSol cellsI_fzL List.replicate_zero encT_length cellsI_length cellsI_getD cellsI_sc cellsI_cl cellsI_winT cellsI_take encI_take encR_set encPs_length encPs_getD encL_length encL_getD bitL_length cellsI_mapL cellsI_domL
set_option maxHeartbeats 40000000 in
theorem c3 (a : Int) (x : List T3) (g : List Int) (ha : okI a) (hxl : x.length ≤ maxLen) (hx : ∀ t ∈ x, okT t) (hgl : g.length = 8) (hg : ∀ c ∈ g, okI c) (od : Rw) (hod : od.coef.length ≤ maxLen) (which : Int) (hwh : okI which) (rw : Pg) (hrw : rw.rows.length ≤ maxLen ∧ rw.gain.length ≤ maxLen) (set : Int) (rows : List Int) (hrs : rows.length ≤ maxLen) (bits : Int) : CallsA Try.prog 3 [.int .i64 a, .sl 3 (encT x), .agg (cellsI g), .agg (encRw od), .int .i64 which, .agg (encPg rw), .int .i64 set, .sl 1 (encI rows), .int .i64 bits] (.bool true) := by
  obtain ⟨M, hM⟩ : ∃ M, madeW a x g = M := ⟨_, rfl⟩
  have hv : validB M = true := hM ▸ made_valid ha hx hg
  have hr8 : M.rows.length ≤ 8 := hM ▸ made_rows a x g
  have hc11 := c11 a x g ha hxl hgl
  rw [hM] at hc11
  obtain ⟨ml1, ml2, ml3⟩ := valid_max hv
  obtain ⟨v, hv1, hv2, hv3, hv4⟩ := vars_pow hv
  have hv5 : shlW .i64 1 M.vars = ((2 ^ v : Nat) : Int) := by rw [hv1]; exact hv3
  obtain ⟨q0, q1, q2, q3, q4, q5⟩ := validB_all hv
  have ss1 : (solveW M).found = true → 0 ≤ (solveW M).set ∧ (solveW M).set < ((2 ^ v : Nat) : Int) := (solve_set hv hv1).1
  have ss0 : (solveW M).found = false → (solveW M).set = 0 ∧ (solveW M).gain = 0 := (solve_set hv hv1).2
  have hc11m : CallsM Try.prog 11 [.int .i64 a, .sl 3 (encT x), .agg (cellsI g)] [] 0 (.agg [.int .i64 (madeW a x g).vars, .own 0, .sl 1 (encI (madeW a x g).gain)]) [(0, .row 26 6 (encR (madeW a x g).rows)), (1, .cells [.int .i64 (madeW a x g).vars, .own 0, .sl 1 (encI (madeW a x g).gain)])] 2 := c11m a x g ha hxl hgl
  rw [hM] at hc11m
  obtain ⟨kk, hkk⟩ : ∃ kk : Nat, 0 < M.rows.length → pickW which (M.rows.length : Nat) = (kk : Nat) ∧ kk < M.rows.length := by
    by_cases h0 : 0 < M.rows.length
    · obtain ⟨k1, h1, h2⟩ := pick_nat (c := which) (n := M.rows.length) hwh h0 (by omega)
      exact ⟨k1, fun _ => ⟨h1, h2⟩⟩
    · exact ⟨0, fun h => (h0 h).elim⟩
  have hmo := minV_range od.coef.length 13 (by omega)
  have hto : od.coef.take (minV (od.coef.length : Int) 13).toNat = od.coef.take 13 := take_min od.coef 13
  have hmr := minV_range rows.length 10 (by omega)
  have htr : rows.take (minV (rows.length : Int) 10).toNat = rows.take 10 := take_min rows 10
  have hom := okPg_made hv hr8
  obtain ⟨PL, hPL⟩ : ∃ PL : List Pg, [M, ⟨M.vars, M.rows.set kk (cutR 13 od), M.gain⟩, fewP rw] = PL := ⟨_, rfl⟩
  have hPl3 : PL.length = 3 := by rw [← hPL]; rfl
  have hPok : ∀ i, i < 3 → okPg (PL.getD i pg0) := fun i hi => by
    rw [← hPL]
    match i, hi with
    | 0, _ => exact hom
    | 1, _ => exact okPg_bent hom kk od
    | 2, _ => exact okPg_few rw
  have hw10 := hod
  unfold maxLen at hod hrs
  have hq := And.intro hv5 (And.intro hgl (And.intro hmo (And.intro hto (And.intro hmr (And.intro htr (hPl3))))))
  refine callsA_of_tr Try.func3 rfl (Nat.le_of_ble_eq_true rfl) ?_
  simp only [Try.results3, envOf, Nat.reduceAdd]
  refine tr_seq fun K1 hK1 => ?_
  refine tr_region [0, 1, 4, 6, 7, 8, 11, 12, 14] rfl rfl fun K hK => ?_
  iterate 4 refine evR_p ?_
  refine evR_e hK ?_; clear hK K
  refine hK1 _ ?_
  refine tr_seq fun K2 hK2 => ?_
  refine tr_region [0, 1, 4, 6, 7, 8, 11, 12, 14, 19] rfl rfl fun K hK => ?_
  refine evR_c (hc := c10) (k := ?_)
  refine evR_p ?_
  refine evR_e hK ?_; clear hK K
  refine hK2 _ ?_
  refine tr_seq fun K3 hK3 => ?_
  refine tr_seq fun K4 hK4 => ?_
  refine tr_region [0, 1, 4, 6, 7, 8, 11, 12, 14, 19, 44] rfl rfl fun K hK => ?_
  iterate 2 refine evR_p ?_
  refine evR_e hK ?_; clear hK K
  refine hK4 _ ?_
  refine tr_condB (fun ht1 => ?_) (fun ht1 => ?_)
  · skip
    (first | (exfalso; simp_all [sameB_self]; done) | (exfalso; omega) | skip)
    all_goals
      refine tr_seq fun K5 hK5 => ?_
      refine tr_region [18] rfl rfl fun K hK => ?_
      refine evR_p ?_
      refine evR_e hK ?_; clear hK K
      refine hK5 _ ?_
      refine tr_ret ?_
      (try simp only [thenE, inBlkE])
      simp (maxSteps := 4000000) (disch := first | assumption | omega | (simp only [go_sem, *]; done) | (simp only [go_sem, *]; omega)) only [postA, postO, resV1, fzAll, go_sem, hq, Int.reduceToNat, Nat.reduceBEq, Nat.reduceEqDiff, Nat.reduceAdd, Nat.reduceMul, Nat.reduceLeDiff, Nat.reduceLT, Nat.reduceSub, ↓reduceIte, reduceCtorEq]
      all_goals (rfl)
  · skip
    (first | (exfalso; simp_all [sameB_self]; done) | (exfalso; omega) | skip)
    all_goals
      refine tr_skip ?_
      (try simp only [thenE, inBlkE])
      refine hK3 _ ?_
      refine tr_seq fun K6 hK6 => ?_
      refine tr_region [0, 1, 4, 6, 7, 8, 11, 12, 14, 19] rfl rfl fun K hK => ?_
      iterate 9 refine evR_p ?_
      refine evR_e hK ?_; clear hK K
      refine hK6 _ ?_
      refine tr_seq fun K7 hK7 => ?_
      refine tr_region [0, 1, 4, 6, 7, 8, 11, 12, 14, 19, 20] rfl rfl fun K hK => ?_
      iterate 3 refine evR_p ?_
      refine evR_stepX fun Kq hKq => Or.inr ?_
      simp (maxSteps := 4000000) (disch := first | assumption | omega | (simp only [go_sem, *]; done) | (simp only [go_sem, *]; omega)) only [stpM, go_sem, hq, Int.reduceToNat, Nat.reduceBEq, Nat.reduceEqDiff, Nat.reduceAdd, Nat.reduceMul, Nat.reduceLeDiff, Nat.reduceLT, Nat.reduceSub, ↓reduceIte, reduceCtorEq]
      refine ⟨[], ?_⟩
      simp (maxSteps := 4000000) (disch := first | assumption | omega | (simp only [go_sem, *]; done) | (simp only [go_sem, *]; omega)) only [V.mapL, V.map, gJ, footJ, inJ, AObj.map, ndJ, ltJ, V.domL, V.dom, AObj.dom, kC, kR, AObj.isC, hJ, backJ, List.any_cons, List.any_nil, Nat.ble_eq, Nat.blt_eq, Nat.reduceLT, Nat.reduceLeDiff, Bool.or_true, Bool.true_or, Bool.or_false, Bool.false_or, Bool.and_self, go_sem, hq, Int.reduceToNat, Nat.reduceBEq, Nat.reduceEqDiff, Nat.reduceAdd, Nat.reduceMul, Nat.reduceLeDiff, Nat.reduceLT, Nat.reduceSub, ↓reduceIte, reduceCtorEq]
      refine ⟨_, _, _, hc11m, ?_⟩
      simp (maxSteps := 4000000) (disch := first | assumption | omega | (simp only [go_sem, *]; done) | (simp only [go_sem, *]; omega)) only [V.mapL, V.map, gJ, footJ, inJ, AObj.map, ndJ, ltJ, V.domL, V.dom, AObj.dom, kC, kR, AObj.isC, hJ, backJ, List.any_cons, List.any_nil, Nat.ble_eq, Nat.blt_eq, Nat.reduceLT, Nat.reduceLeDiff, Bool.or_true, Bool.true_or, Bool.or_false, Bool.false_or, Bool.and_self, go_sem, hq, Int.reduceToNat, Nat.reduceBEq, Nat.reduceEqDiff, Nat.reduceAdd, Nat.reduceMul, Nat.reduceLeDiff, Nat.reduceLT, Nat.reduceSub, ↓reduceIte, reduceCtorEq]
      (repeat (refine And.intro (by first | assumption | omega | decide | (simp; done) | (simp; omega) | (have hq := hvv hgt; omega) | (have hq := hvv hgt.1; omega) | (simp_all; done)) ?_))
      refine hKq _ ?_; clear hKq Kq
      iterate 2 refine evR_p ?_
      refine evR_e hK ?_; clear hK K
      refine hK7 _ ?_
      refine tr_seq fun K8 hK8 => ?_
      refine tr_seq fun K9 hK9 => ?_
      refine tr_region [0, 1, 4, 6, 7, 8, 11, 12, 14, 19, 20, 60] rfl rfl fun K hK => ?_
      iterate 4 refine evR_p ?_
      refine evR_e hK ?_; clear hK K
      refine hK9 _ ?_
      refine tr_cut (fun σ => σ = ⟨[(0, .int .i64 a), (1, .sl 3 (encT x)), (6, .int .i64 set), (7, .sl 1 (encI rows)), (8, .int .i64 bits), (11, .ptr 0 0), (14, .ptr 2 0), (19, .bool true), (20, .ptr 5 0)], [(5, .cells [.int .i64 M.vars, .own 3, .sl 1 (encI M.gain)]), (3, .row 26 6 (encR (M.rows.set kk (cutR 13 od)))), (4, .cells [.int .i64 M.vars, .own 3, .sl 1 (encI M.gain)]), (2, .cells [.int .i64 rw.vars, .sl 6 (encR rw.rows), .sl 1 (encI rw.gain)]), (1, .cells [.int .i64 od.kind, .int .i64 od.a, .int .i64 od.b, .int .i64 od.pl, .sl 1 (encI (od.coef.take 13)), .int .i64 od.most]), (0, .cells (cellsI g))], 6⟩) (fun KJ2 hKJ2 => ?_) ?_
      · skip
        refine tr_condB (fun ht2 => ?_) (fun ht2 => ?_)
        · skip
          (first | (exfalso; simp_all [sameB_self]; done) | (exfalso; omega) | skip)
          all_goals
            refine tr_draw [] [0, 1, 6, 7, 8, 11, 14, 19, 20] mixed rfl (by kernel_rfl) rfl fun K hK => ?_
            iterate 6 refine evD_p ?_
            refine evD_c (hc := (c12 _ _ (by omega))) (k := ?_)
            iterate 3 refine evD_p ?_
            refine evD_e hK ?_; clear hK K
            refine hKJ2 _ ?_
            have hkp : M.rows.length = 0 ∨ 0 < M.rows.length := by omega
            rcases hkp with hkp | hkp
            · first
              | (exfalso; simp_all; done)
              | (rw [List.set_eq_of_length_le (by omega)]; rfl)
            · first
              | (exfalso; simp_all; done)
              | (rw [(hkk hkp).1]; rfl)
        · skip
          (first | (exfalso; simp_all [sameB_self]; done) | (exfalso; omega) | skip)
          all_goals
            refine tr_wk (Wk.norm _ [0, 1, 6, 7, 8, 11, 14, 19, 20]) ?_
            refine tr_skip ?_
            (try simp only [thenE, inBlkE])
            refine hKJ2 _ ?_
            have hkp : M.rows.length = 0 ∨ 0 < M.rows.length := by omega
            rcases hkp with hkp | hkp
            · first
              | (exfalso; simp_all; done)
              | (rw [List.set_eq_of_length_le (by omega)]; rfl)
            · first
              | (exfalso; simp_all; done)
              | (rw [(hkk hkp).1]; rfl)
      · rintro σ rfl
        refine hK8 _ ?_
        refine tr_seq fun K10 hK10 => ?_
        refine tr_seq fun K11 hK11 => ?_
        refine tr_fz [.own 3] (by simp (maxSteps := 4000000) (disch := first | assumption | omega | (simp only [go_sem, *]; done) | (simp only [go_sem, *]; omega)) only [go_sem, hq, Int.reduceToNat, Nat.reduceBEq, Nat.reduceEqDiff, Nat.reduceAdd, Nat.reduceMul, Nat.reduceLeDiff, Nat.reduceLT, Nat.reduceSub, ↓reduceIte, reduceCtorEq]; (try rfl)) ?_
        refine tr_draw [77] [6, 7, 8, 19, 77, 78, 79] mixed rfl (by kernel_rfl) rfl fun K hK => ?_
        iterate 3 refine evD_p ?_
        refine evD_c (hc := hc11) (k := ?_)
        iterate 2 refine evD_p ?_
        refine evD_c (hc := (c13 rw hrw.1 hrw.2)) (k := ?_)
        refine evD_bs ?_
        iterate 2 refine evD_p ?_
        refine evD_e hK ?_; clear hK K
        refine hK11 _ ?_
        refine tr_block ?_
        -- loop 1: live [6, 7, 8, 19, 77, 78, 79]
        refine tr_loopW (fun m σ => ∃ i : Nat, i + m = 3 ∧ (validB (PL.getD i pg0) = true ∨ validB (PL.getD i pg0) = false) ∧ σ = ⟨[(6, .int .i64 set), (7, .sl 1 (encI rows)), (8, .int .i64 bits), (19, .bool true), (77, .sl 3 (encPs PL)), (78, .int .i64 3), (79, .int .i64 (i : Nat))], [], 0⟩) (3) ?_ ?_
        · exact ⟨_, Wk.cut 0 rfl, 0, by omega, bool_or _, by rw [← hPL]; rfl⟩
        · rintro m σ ⟨i, hi, (hvp | hvp), rfl⟩ KL1 hKL1
          all_goals
            refine tr_seq fun K12 hK12 => ?_
            refine tr_region [6, 7, 8, 19, 77, 78, 79, 80] rfl rfl fun K hK => ?_
            refine evR_p ?_
            refine evR_e hK ?_; clear hK K
            refine hK12 _ ?_
            refine tr_seq fun K13 hK13 => ?_
            refine tr_condB (fun ht3 => ?_) (fun ht3 => ?_)
            · skip
              (first | (exfalso; simp_all [sameB_self]; done) | (exfalso; omega) | skip)
              all_goals
                have hil : i < 3 := by omega
                have hPb := hPok i hil
                obtain ⟨P, hP⟩ : ∃ P, PL.getD i pg0 = P := ⟨_, rfl⟩
                rw [hP] at hvp hPb
                obtain ⟨p1, p2, p3⟩ := okPg_max hPb
                obtain ⟨o1, o2, o3⟩ := id hPb
                replace hq := And.intro hq (And.intro hil (And.intro hP (hvp)))
                refine tr_skip ?_
                (try simp only [thenE, inBlkE])
                refine hK13 _ ?_
                refine tr_seq fun K14 hK14 => ?_
                refine tr_block ?_
                refine tr_seq fun K15 hK15 => ?_
                refine tr_region [6, 7, 8, 19, 22, 77, 78, 79] rfl rfl fun K hK => ?_
                iterate 4 refine evR_p ?_
                refine evR_e hK ?_; clear hK K
                refine hK15 _ ?_
                refine tr_seq fun K16 hK16 => ?_
                refine tr_region [6, 7, 8, 19, 22, 23, 24, 77, 78, 79] rfl rfl fun K hK => ?_
                refine evR_p ?_
                refine evR_c (hc := (by first | exact (c14 P p1 p2 p3 hvp) | exact (c14n P p1 p2 p3 hvp))) (k := ?_)
                iterate 6 refine evR_p ?_
                refine evR_e hK ?_; clear hK K
                refine hK16 _ ?_
                refine tr_seq fun K17 hK17 => ?_
                refine tr_region [6, 7, 8, 19, 22, 23, 24, 25, 26, 77, 78, 79] rfl rfl fun K hK => ?_
                refine evR_p ?_
                refine evR_c (hc := (by first | exact (c15 P p1 p2 p3 hvp) | exact (c15n P p1 p2 p3 hvp))) (k := ?_)
                iterate 6 refine evR_p ?_
                refine evR_e hK ?_; clear hK K
                refine hK17 _ ?_
                refine tr_seq fun K18 hK18 => ?_
                refine tr_region [6, 7, 8, 19, 22, 23, 24, 25, 26, 27, 28, 77, 78, 79] rfl rfl fun K hK => ?_
                refine evR_p ?_
                refine evR_c (hc := (by first | exact (c16 P p1 p2 p3 hvp) | exact (c16n P p1 p2 p3 hvp))) (k := ?_)
                iterate 5 refine evR_p ?_
                refine evR_e hK ?_; clear hK K
                refine hK18 _ ?_
                refine tr_seq fun K19 hK19 => ?_
                refine tr_region [6, 7, 8, 19, 22, 23, 24, 25, 26, 27, 28, 29, 30, 77, 78, 79] rfl rfl fun K hK => ?_
                refine evR_p ?_
                refine evR_c (hc := (by first | exact (c17 P p1 p2 p3 hvp) | exact (c17n P p1 p2 p3 hvp))) (k := ?_)
                iterate 5 refine evR_p ?_
                refine evR_e hK ?_; clear hK K
                refine hK19 _ ?_
                refine tr_seq fun K20 hK20 => ?_
                refine tr_seq fun K21 hK21 => ?_
                refine tr_draw [] [6, 7, 8, 19, 22, 77, 78, 79, 152] mixed rfl (by kernel_rfl) rfl fun K hK => ?_
                iterate 4 refine evD_p ?_
                iterate 3 refine evD_g ?_
                iterate 2 refine evD_p ?_
                iterate 5 refine evD_g ?_
                iterate 2 refine evD_p ?_
                iterate 5 refine evD_g ?_
                iterate 2 refine evD_p ?_
                iterate 5 refine evD_g ?_
                iterate 2 refine evD_p ?_
                iterate 4 refine evD_g ?_
                refine evD_gc (hc := (by first | exact (c18 (solveW P).proof (proof_max hvp)) | exact ((c18 [] (by simp)).arg (.cons (.nsl 4) (.cons (.nsl 4) .nil))))) (k := ?_)
                refine evD_g ?_
                iterate 2 refine evD_p ?_
                iterate 2 refine evD_g ?_
                refine evD_gc (hc := (by first | exact (c19 (choiceL P) (choiceL P) (choice_max hvp).1 (choice_max hvp).1) | exact ((c19 [] [] (by simp) (by simp)).arg (.cons (.nsl 1) (.cons (.nsl 1) .nil))))) (k := ?_)
                refine evD_g ?_
                iterate 2 refine evD_p ?_
                refine evD_g ?_
                refine evD_gc (hc := (c20 P p1 p2 p3)) (k := ?_)
                refine evD_g ?_
                refine evD_gc (hc := (c21 P p1 p2 p3)) (k := ?_)
                refine evD_g ?_
                refine evD_p ?_
                refine evD_e hK ?_; clear hK K
                refine hK21 _ ?_
                refine tr_condB (fun ht4 => ?_) (fun ht4 => ?_)
                · skip
                  (first | (exfalso; simp_all [sameB_self]; done) | (exfalso; omega) | skip)
                  all_goals
                    refine tr_seq fun K22 hK22 => ?_
                    refine tr_region [18] rfl rfl fun K hK => ?_
                    refine evR_p ?_
                    refine evR_e hK ?_; clear hK K
                    refine hK22 _ ?_
                    refine tr_ret ?_
                    (try simp only [thenE, inBlkE])
                    simp (maxSteps := 4000000) (disch := first | assumption | omega | (simp only [go_sem, *]; done) | (simp only [go_sem, *]; omega)) only [postA, postO, resV1, fzAll, go_sem, hq, Int.reduceToNat, Nat.reduceBEq, Nat.reduceEqDiff, Nat.reduceAdd, Nat.reduceMul, Nat.reduceLeDiff, Nat.reduceLT, Nat.reduceSub, ↓reduceIte, reduceCtorEq]
                    all_goals (rfl)
                · skip
                  (first | (exfalso; simp_all [sameB_self]; done) | (exfalso; omega) | skip)
                  all_goals
                    refine tr_skip ?_
                    (try simp only [thenE, inBlkE])
                    refine hK20 _ ?_
                    refine tr_seq fun K23 hK23 => ?_
                    refine tr_seq fun K24 hK24 => ?_
                    refine tr_region [6, 7, 8, 19, 22, 77, 78, 79, 156, 157, 158] rfl rfl fun K hK => ?_
                    iterate 2 refine evR_p ?_
                    refine evR_c (hc := (c12 _ _ (by decide))) (k := ?_)
                    refine evR_bs ?_
                    iterate 2 refine evR_p ?_
                    refine evR_e hK ?_; clear hK K
                    refine hK24 _ ?_
                    refine tr_block ?_
                    -- loop 2: live [6, 7, 8, 19, 22, 77, 78, 79, 156, 157, 158]
                    refine tr_loopW (fun m σ => ∃ j : Nat, j + m = 2 ∧ σ = ⟨[(6, .int .i64 set), (7, .sl 1 (encI rows)), (8, .int .i64 bits), (19, .bool true), (22, .ptr 0 0), (77, .sl 3 (encPs PL)), (78, .int .i64 3), (79, .int .i64 (i : Nat)), (156, .sl 1 (encI [set, pickW set 256])), (157, .int .i64 2), (158, .int .i64 (j : Nat))], [(0, .cells [.int .i64 P.vars, .sl 6 (encR P.rows), .sl 1 (encI P.gain)])], 1⟩) (2) ?_ ?_
                    · exact ⟨_, Wk.cut 1 rfl, 0, by omega, rfl⟩
                    · rintro m2 σ ⟨j, hj, rfl⟩ KL2 hKL2
                      refine tr_seq fun K25 hK25 => ?_
                      refine tr_region [6, 7, 8, 19, 22, 77, 78, 79, 156, 157, 158, 159] rfl rfl fun K hK => ?_
                      refine evR_p ?_
                      refine evR_e hK ?_; clear hK K
                      refine hK25 _ ?_
                      refine tr_seq fun K26 hK26 => ?_
                      refine tr_condB (fun ht5 => ?_) (fun ht5 => ?_)
                      · skip
                        (first | (exfalso; simp_all [sameB_self]; done) | (exfalso; omega) | skip)
                        all_goals
                          have hjl : j < 2 := by omega
                          obtain ⟨z, hz⟩ : ∃ z, ([set, pickW set 256] : List Int).getD j 0 = z := ⟨_, rfl⟩
                          replace hq := And.intro hq (And.intro hjl (hz))
                          refine tr_skip ?_
                          (try simp only [thenE, inBlkE])
                          refine hK26 _ ?_
                          refine tr_seq fun K27 hK27 => ?_
                          refine tr_block ?_
                          refine tr_seq fun K28 hK28 => ?_
                          refine tr_region [6, 7, 8, 19, 22, 32, 77, 78, 79, 156, 157, 158] rfl rfl fun K hK => ?_
                          iterate 3 refine evR_p ?_
                          refine evR_e hK ?_; clear hK K
                          refine hK28 _ ?_
                          refine tr_seq fun K29 hK29 => ?_
                          refine tr_seq fun K30 hK30 => ?_
                          refine tr_draw [] [6, 7, 8, 19, 22, 32, 77, 78, 79, 156, 157, 158, 187] mixed rfl (by kernel_rfl) rfl fun K hK => ?_
                          iterate 2 refine evD_p ?_
                          refine evD_c (hc := (c22 P p1 p2 p3 z)) (k := ?_)
                          iterate 2 refine evD_p ?_
                          refine evD_c (hc := (c23 P p1 p2 p3 z)) (k := ?_)
                          iterate 2 refine evD_p ?_
                          iterate 2 refine evD_g ?_
                          refine evD_gc (hc := (c24 P p1 p2 p3 z)) (k := ?_)
                          iterate 2 refine evD_g ?_
                          refine evD_gc (hc := (c25 P p1 p2 p3 z)) (k := ?_)
                          refine evD_g ?_
                          iterate 2 refine evD_p ?_
                          iterate 2 refine evD_g ?_
                          refine evD_gc (hc := (c26 P p1 p2 p3 z)) (k := ?_)
                          iterate 2 refine evD_g ?_
                          refine evD_gc (hc := (c27 P p1 p2 p3 z)) (k := ?_)
                          refine evD_gc (hc := (c19 (brokenW P z) (brokenW P z) (brk_max P hPb z) (brk_max P hPb z))) (k := ?_)
                          refine evD_g ?_
                          refine evD_p ?_
                          refine evD_e hK ?_; clear hK K
                          refine hK30 _ ?_
                          refine tr_condB (fun ht6 => ?_) (fun ht6 => ?_)
                          · skip
                            (first | (exfalso; simp_all [sameB_self]; done) | (exfalso; omega) | skip)
                            all_goals
                              refine tr_seq fun K31 hK31 => ?_
                              refine tr_region [18] rfl rfl fun K hK => ?_
                              refine evR_p ?_
                              refine evR_e hK ?_; clear hK K
                              refine hK31 _ ?_
                              refine tr_ret ?_
                              (try simp only [thenE, inBlkE])
                              simp (maxSteps := 4000000) (disch := first | assumption | omega | (simp only [go_sem, *]; done) | (simp only [go_sem, *]; omega)) only [postA, postO, resV1, fzAll, go_sem, hq, Int.reduceToNat, Nat.reduceBEq, Nat.reduceEqDiff, Nat.reduceAdd, Nat.reduceMul, Nat.reduceLeDiff, Nat.reduceLT, Nat.reduceSub, ↓reduceIte, reduceCtorEq]
                              all_goals (rfl)
                          · skip
                            (first | (exfalso; simp_all [sameB_self]; done) | (exfalso; omega) | skip)
                            all_goals
                              refine tr_skip ?_
                              (try simp only [thenE, inBlkE])
                              refine hK29 _ ?_
                              refine tr_seq fun K32 hK32 => ?_
                              refine tr_region [6, 7, 8, 19, 22, 32, 33, 77, 78, 79, 156, 157, 158] rfl rfl fun K hK => ?_
                              refine evR_p ?_
                              refine evR_e hK ?_; clear hK K
                              refine hK32 _ ?_
                              refine tr_block ?_
                              -- loop 3: live [6, 7, 8, 19, 22, 32, 33, 77, 78, 79, 156, 157, 158]
                              refine tr_loopW (fun m σ => ∃ k : Nat, k + m = P.rows.length ∧ σ = ⟨[(6, .int .i64 set), (7, .sl 1 (encI rows)), (8, .int .i64 bits), (19, .bool true), (22, .ptr 0 0), (32, .int .i64 z), (33, .int .i64 (k : Nat)), (77, .sl 3 (encPs PL)), (78, .int .i64 3), (79, .int .i64 (i : Nat)), (156, .sl 1 (encI [set, pickW set 256])), (157, .int .i64 2), (158, .int .i64 (j : Nat))], [(0, .cells [.int .i64 P.vars, .sl 6 (encR P.rows), .sl 1 (encI P.gain)])], 1⟩) (P.rows.length) ?_ ?_
                              · exact ⟨_, Wk.refl _, 0, by omega, rfl⟩
                              · rintro m3 σ ⟨k, hk, rfl⟩ KL3 hKL3
                                refine tr_seq fun K33 hK33 => ?_
                                refine tr_seq fun K34 hK34 => ?_
                                refine tr_region [6, 7, 8, 19, 22, 32, 33, 77, 78, 79, 156, 157, 158, 192] rfl rfl fun K hK => ?_
                                iterate 5 refine evR_p ?_
                                refine evR_e hK ?_; clear hK K
                                refine hK34 _ ?_
                                refine tr_condB (fun ht7 => ?_) (fun ht7 => ?_)
                                · skip
                                  (first | (exfalso; simp_all [sameB_self]; done) | (exfalso; omega) | skip)
                                  all_goals
                                    have hkl : k < P.rows.length := by omega
                                    replace hq := And.intro hq (hkl)
                                    refine tr_skip ?_
                                    (try simp only [thenE, inBlkE])
                                    refine hK33 _ ?_
                                    refine tr_seq fun K35 hK35 => ?_
                                    refine tr_block ?_
                                    refine tr_seq fun K36 hK36 => ?_
                                    refine tr_draw [] [6, 7, 8, 19, 22, 32, 33, 77, 78, 79, 156, 157, 158, 209] mixed rfl (by kernel_rfl) rfl fun K hK => ?_
                                    iterate 6 refine evD_p ?_
                                    refine evD_c (hc := (c28 (P.rows.getD k rw0) (p3 _ (getD_mem hkl)) z)) (k := ?_)
                                    iterate 6 refine evD_p ?_
                                    refine evD_c (hc := (c29 (P.rows.getD k rw0) (p3 _ (getD_mem hkl)) z)) (k := ?_)
                                    refine evD_p ?_
                                    refine evD_e hK ?_; clear hK K
                                    refine hK36 _ ?_
                                    refine tr_condB (fun ht8 => ?_) (fun ht8 => ?_)
                                    · skip
                                      (first | (exfalso; simp_all [sameB_self]; done) | (exfalso; omega) | skip)
                                      all_goals
                                        refine tr_seq fun K37 hK37 => ?_
                                        refine tr_region [18] rfl rfl fun K hK => ?_
                                        refine evR_p ?_
                                        refine evR_e hK ?_; clear hK K
                                        refine hK37 _ ?_
                                        refine tr_ret ?_
                                        (try simp only [thenE, inBlkE])
                                        simp (maxSteps := 4000000) (disch := first | assumption | omega | (simp only [go_sem, *]; done) | (simp only [go_sem, *]; omega)) only [postA, postO, resV1, fzAll, go_sem, hq, Int.reduceToNat, Nat.reduceBEq, Nat.reduceEqDiff, Nat.reduceAdd, Nat.reduceMul, Nat.reduceLeDiff, Nat.reduceLT, Nat.reduceSub, ↓reduceIte, reduceCtorEq]
                                        all_goals (rfl)
                                    · skip
                                      (first | (exfalso; simp_all [sameB_self]; done) | (exfalso; omega) | skip)
                                      all_goals
                                        refine tr_skip ?_
                                        (try simp only [thenE, inBlkE])
                                        refine hK35 _ ?_
                                        refine tr_region [6, 7, 8, 19, 22, 32, 33, 77, 78, 79, 156, 157, 158] rfl rfl fun K hK => ?_
                                        iterate 3 refine evR_p ?_
                                        refine evR_e hK ?_; clear hK K
                                        refine hKL3 _ ?_
                                        exact ⟨m3 - 1, _, by omega, Wk.refl _, k + 1, by omega, by rw [w64 (x := (k : Int) + 1) (by omega)]; rfl⟩
                                · skip
                                  (first | (exfalso; simp_all [sameB_self]; done) | (exfalso; omega) | skip)
                                  all_goals
                                    refine tr_exit ?_
                                    simp only [thenE, inBlkE, Nat.reduceEqDiff, ↓reduceIte]
                                    refine hK27 _ ?_
                                    refine tr_region [6, 7, 8, 19, 22, 77, 78, 79, 156, 157, 158] rfl rfl fun K hK => ?_
                                    iterate 2 refine evR_p ?_
                                    refine evR_e hK ?_; clear hK K
                                    refine hKL2 _ ?_
                                    exact ⟨m2 - 1, _, by omega, Wk.refl _, j + 1, by omega, by rw [w64 (x := (j : Int) + 1) (by omega)]; rfl⟩
                      · skip
                        (first | (exfalso; simp_all [sameB_self]; done) | (exfalso; omega) | skip)
                        all_goals
                          refine tr_exit ?_
                          simp only [thenE, inBlkE, Nat.reduceEqDiff, ↓reduceIte]
                          refine hK23 _ ?_
                          refine tr_seq fun K38 hK38 => ?_
                          refine tr_region [6, 7, 8, 19, 22, 34, 77, 78, 79] rfl rfl fun K hK => ?_
                          refine evR_p ?_
                          refine evR_e hK ?_; clear hK K
                          refine hK38 _ ?_
                          refine tr_seq fun K39 hK39 => ?_
                          refine tr_seq fun K40 hK40 => ?_
                          refine tr_region [6, 7, 8, 19, 22, 34, 35, 77, 78, 79] rfl rfl fun K hK => ?_
                          refine evR_p ?_
                          refine evR_e hK ?_; clear hK K
                          refine hK40 _ ?_
                          refine tr_block ?_
                          -- loop 4: live [6, 7, 8, 19, 22, 34, 35, 77, 78, 79]
                          refine tr_loopW (fun m σ => ∃ k : Nat, k + m = P.rows.length ∧ σ = ⟨[(6, .int .i64 set), (7, .sl 1 (encI rows)), (8, .int .i64 bits), (19, .bool true), (22, .ptr 0 0), (34, .own 1), (35, .int .i64 (k : Nat)), (77, .sl 3 (encPs PL)), (78, .int .i64 3), (79, .int .i64 (i : Nat))], [(1, .row 3 1 (encI (bitL (pickW bits 1048576) k))), (0, .cells [.int .i64 P.vars, .sl 6 (encR P.rows), .sl 1 (encI P.gain)])], 2⟩) (P.rows.length) ?_ ?_
                          · exact ⟨_, Wk.trans (Wk.cut 1 rfl) (Wk.nilslot 3 1 34 rfl), 0, by omega, rfl⟩
                          · rintro m4 σ ⟨k, hk, rfl⟩ KL4 hKL4
                            have hbl := bitL_length (pickW bits 1048576) k
                            refine tr_seq fun K41 hK41 => ?_
                            refine tr_seq fun K42 hK42 => ?_
                            refine tr_region [6, 7, 8, 19, 22, 34, 35, 77, 78, 79, 215] rfl rfl fun K hK => ?_
                            iterate 5 refine evR_p ?_
                            refine evR_e hK ?_; clear hK K
                            refine hK42 _ ?_
                            refine tr_condB (fun ht9 => ?_) (fun ht9 => ?_)
                            · skip
                              (first | (exfalso; simp_all [sameB_self]; done) | (exfalso; omega) | skip)
                              all_goals
                                have hkl : k < P.rows.length := by omega
                                replace hq := And.intro hq (hkl)
                                refine tr_skip ?_
                                (try simp only [thenE, inBlkE])
                                refine hK41 _ ?_
                                refine tr_seq fun K43 hK43 => ?_
                                refine tr_block ?_
                                refine tr_seq fun K44 hK44 => ?_
                                refine tr_region [6, 7, 8, 19, 22, 34, 35, 77, 78, 79, 223] rfl rfl fun K hK => ?_
                                refine evR_p ?_
                                refine evR_c (hc := (c12 _ _ (by decide))) (k := ?_)
                                iterate 4 refine evR_p ?_
                                refine evR_e hK ?_; clear hK K
                                refine hK44 _ ?_
                                refine tr_condB (fun ht10 => ?_) (fun ht10 => ?_)
                                · skip
                                  (first | (exfalso; simp_all [sameB_self]; done) | (exfalso; omega) | skip)
                                  all_goals
                                    refine tr_region [6, 7, 8, 19, 22, 34, 35, 77, 78, 79] rfl rfl fun K hK => ?_
                                    iterate 2 refine evR_p ?_
                                    refine evR_bs ?_
                                    iterate 2 refine evR_p ?_
                                    refine evR_e hK ?_; clear hK K
                                    refine hK43 _ ?_
                                    refine tr_region [6, 7, 8, 19, 22, 34, 35, 77, 78, 79] rfl rfl fun K hK => ?_
                                    iterate 3 refine evR_p ?_
                                    refine evR_e hK ?_; clear hK K
                                    refine hKL4 _ ?_
                                    first
                                      | exact ⟨m4 - 1, _, by omega, Wk.refl _, k + 1, by omega, by rw [w64 (x := (k : Int) + 1) (by omega), bitL_f (by assumption)]; rfl⟩
                                      | exact ⟨m4 - 1, _, by omega, (Wk.trans (Wk.ren 2 1 (Nat.le_of_ble_eq_true rfl) (Nat.le_of_ble_eq_true rfl) rfl) (Wk.cut 2 rfl)), k + 1, by omega, by rw [w64 (x := (k : Int) + 1) (by omega), bitL_t (by assumption), encI_snoc]; rfl⟩
                                · skip
                                  (first | (exfalso; simp_all [sameB_self]; done) | (exfalso; omega) | skip)
                                  all_goals
                                    refine tr_skip ?_
                                    (try simp only [thenE, inBlkE])
                                    refine hK43 _ ?_
                                    refine tr_region [6, 7, 8, 19, 22, 34, 35, 77, 78, 79] rfl rfl fun K hK => ?_
                                    iterate 3 refine evR_p ?_
                                    refine evR_e hK ?_; clear hK K
                                    refine hKL4 _ ?_
                                    first
                                      | exact ⟨m4 - 1, _, by omega, Wk.refl _, k + 1, by omega, by rw [w64 (x := (k : Int) + 1) (by omega), bitL_f (by assumption)]; rfl⟩
                                      | exact ⟨m4 - 1, _, by omega, (Wk.trans (Wk.ren 2 1 (Nat.le_of_ble_eq_true rfl) (Nat.le_of_ble_eq_true rfl) rfl) (Wk.cut 2 rfl)), k + 1, by omega, by rw [w64 (x := (k : Int) + 1) (by omega), bitL_t (by assumption), encI_snoc]; rfl⟩
                            · skip
                              (first | (exfalso; simp_all [sameB_self]; done) | (exfalso; omega) | skip)
                              all_goals
                                have hkl : k = P.rows.length := by omega
                                subst hkl
                                refine tr_exit ?_
                                simp only [thenE, inBlkE, Nat.reduceEqDiff, ↓reduceIte]
                                refine hK39 _ ?_
                                refine tr_seq fun K45 hK45 => ?_
                                refine tr_fz [.own 1] (by simp (maxSteps := 4000000) (disch := first | assumption | omega | (simp only [go_sem, *]; done) | (simp only [go_sem, *]; omega)) only [go_sem, hq, Int.reduceToNat, Nat.reduceBEq, Nat.reduceEqDiff, Nat.reduceAdd, Nat.reduceMul, Nat.reduceLeDiff, Nat.reduceLT, Nat.reduceSub, ↓reduceIte, reduceCtorEq]; (try rfl)) ?_
                                refine tr_region [6, 7, 8, 19, 22, 77, 78, 79, 234, 235, 236] rfl rfl fun K hK => ?_
                                iterate 6 refine evR_p ?_
                                refine evR_bs ?_
                                iterate 2 refine evR_p ?_
                                refine evR_e hK ?_; clear hK K
                                refine hK45 _ ?_
                                refine tr_block ?_
                                -- loop 5: live [6, 7, 8, 19, 22, 77, 78, 79, 234, 235, 236]
                                refine tr_loopW (fun m σ => ∃ j : Nat, j + m = 2 ∧ (wthV P ([rows.take 10, bitL (pickW bits 1048576) P.rows.length].getD j []) = [.agg (encPg (withoutW P ([rows.take 10, bitL (pickW bits 1048576) P.rows.length].getD j []))), .int .i64 0] ∨ wthV P ([rows.take 10, bitL (pickW bits 1048576) P.rows.length].getD j []) = [.agg [.int .i64 0, .nsl, .nsl], .int .i64 230]) ∧ σ = ⟨[(6, .int .i64 set), (7, .sl 1 (encI rows)), (8, .int .i64 bits), (19, .bool true), (22, .ptr 0 0), (77, .sl 3 (encPs PL)), (78, .int .i64 3), (79, .int .i64 (i : Nat)), (234, .sl 1 (encL [rows.take 10, bitL (pickW bits 1048576) P.rows.length])), (235, .int .i64 2), (236, .int .i64 (j : Nat))], [(0, .cells [.int .i64 P.vars, .sl 6 (encR P.rows), .sl 1 (encI P.gain)])], 1⟩) (2) ?_ ?_
                                · exact ⟨_, Wk.cut 1 rfl, 0, by omega, wth_or _ _, rfl⟩
                                · rintro m5 σ ⟨j, hj, (hwv | hwv), rfl⟩ KL5 hKL5
                                  all_goals
                                    refine tr_seq fun K46 hK46 => ?_
                                    refine tr_region [6, 7, 8, 19, 22, 77, 78, 79, 234, 235, 236, 237] rfl rfl fun K hK => ?_
                                    refine evR_p ?_
                                    refine evR_e hK ?_; clear hK K
                                    refine hK46 _ ?_
                                    refine tr_seq fun K47 hK47 => ?_
                                    refine tr_condB (fun ht11 => ?_) (fun ht11 => ?_)
                                    · skip
                                      (first | (exfalso; simp_all [sameB_self]; done) | (exfalso; omega) | skip)
                                      all_goals
                                        have hjl : j < 2 := by omega
                                        have hlm : ([rows.take 10, bitL (pickW bits 1048576) P.rows.length].getD j []).length ≤ maxLen := by
                                          unfold maxLen
                                          match j, hjl with
                                          | 0, _ => simp; omega
                                          | 1, _ => simp; omega
                                        obtain ⟨l, hl⟩ : ∃ l, [rows.take 10, bitL (pickW bits 1048576) P.rows.length].getD j [] = l := ⟨_, rfl⟩
                                        rw [hl] at hwv hlm
                                        obtain ⟨q1, q2, q3⟩ := okPg_max (okPg_without hPb l)
                                        replace hq := And.intro hq (And.intro hjl (hl))
                                        refine tr_skip ?_
                                        (try simp only [thenE, inBlkE])
                                        refine hK47 _ ?_
                                        refine tr_seq fun K48 hK48 => ?_
                                        refine tr_block ?_
                                        refine tr_seq fun K49 hK49 => ?_
                                        refine tr_region [6, 7, 8, 19, 22, 37, 77, 78, 79, 234, 235, 236] rfl rfl fun K hK => ?_
                                        iterate 3 refine evR_p ?_
                                        refine evR_e hK ?_; clear hK K
                                        refine hK49 _ ?_
                                        refine tr_seq fun K50 hK50 => ?_
                                        refine tr_region [6, 7, 8, 19, 22, 37, 38, 39, 77, 78, 79, 234, 235, 236] rfl rfl fun K hK => ?_
                                        iterate 2 refine evR_p ?_
                                        refine evR_c (hc := (hwv ▸ c30 P p1 p2 p3 l hlm)) (k := ?_)
                                        iterate 6 refine evR_p ?_
                                        refine evR_e hK ?_; clear hK K
                                        refine hK50 _ ?_
                                        refine tr_seq fun K51 hK51 => ?_
                                        refine tr_region [6, 7, 8, 19, 22, 38, 39, 40, 41, 77, 78, 79, 234, 235, 236] rfl rfl fun K hK => ?_
                                        iterate 2 refine evR_p ?_
                                        refine evR_c (hc := (hwv ▸ c31 P p1 p2 p3 l hlm)) (k := ?_)
                                        iterate 6 refine evR_p ?_
                                        refine evR_e hK ?_; clear hK K
                                        refine hK51 _ ?_
                                        refine tr_seq fun K52 hK52 => ?_
                                        refine tr_region [6, 7, 8, 19, 22, 77, 78, 79, 234, 235, 236, 260] rfl rfl fun K hK => ?_
                                        iterate 4 refine evR_p ?_
                                        iterate 2 refine evR_g ?_
                                        refine evR_gc (hc := (by first | exact (c32 (withoutW P l) (withoutW P l) q1 q1 q2 q2 q3 q3) | exact ((c32 pg0 pg0 (by simp [pg0]) (by simp [pg0]) (by simp [pg0]) (by simp [pg0]) (by simp [pg0]) (by simp [pg0])).arg (.cons (.agg (.cons (.refl _) (.cons (.nsl 6) (.cons (.nsl 1) .nil)))) (.cons (.agg (.cons (.refl _) (.cons (.nsl 6) (.cons (.nsl 1) .nil)))) .nil))))) (k := ?_)
                                        refine evR_g ?_
                                        refine evR_p ?_
                                        refine evR_e hK ?_; clear hK K
                                        refine hK52 _ ?_
                                        refine tr_condB (fun ht12 => ?_) (fun ht12 => ?_)
                                        · skip
                                          (first | (exfalso; simp_all [sameB_self]; done) | (exfalso; omega) | skip)
                                          all_goals
                                            refine tr_seq fun K53 hK53 => ?_
                                            refine tr_region [18] rfl rfl fun K hK => ?_
                                            refine evR_p ?_
                                            refine evR_e hK ?_; clear hK K
                                            refine hK53 _ ?_
                                            refine tr_ret ?_
                                            (try simp only [thenE, inBlkE])
                                            simp (maxSteps := 4000000) (disch := first | assumption | omega | (simp only [go_sem, *]; done) | (simp only [go_sem, *]; omega)) only [postA, postO, resV1, fzAll, go_sem, hq, Int.reduceToNat, Nat.reduceBEq, Nat.reduceEqDiff, Nat.reduceAdd, Nat.reduceMul, Nat.reduceLeDiff, Nat.reduceLT, Nat.reduceSub, ↓reduceIte, reduceCtorEq]
                                            all_goals (rfl)
                                        · skip
                                          (first | (exfalso; simp_all [sameB_self]; done) | (exfalso; omega) | skip)
                                          all_goals
                                            refine tr_skip ?_
                                            (try simp only [thenE, inBlkE])
                                            refine hK48 _ ?_
                                            refine tr_region [6, 7, 8, 19, 22, 77, 78, 79, 234, 235, 236] rfl rfl fun K hK => ?_
                                            iterate 2 refine evR_p ?_
                                            refine evR_e hK ?_; clear hK K
                                            refine hKL5 _ ?_
                                            exact ⟨m5 - 1, _, by omega, Wk.cut 1 rfl, j + 1, by omega, wth_or _ _, by rw [w64 (x := (j : Int) + 1) (by omega)]; rfl⟩
                                    · skip
                                      (first | (exfalso; simp_all [sameB_self]; done) | (exfalso; omega) | skip)
                                      all_goals
                                        refine tr_exit ?_
                                        simp only [thenE, inBlkE, Nat.reduceEqDiff, ↓reduceIte]
                                        refine hK14 _ ?_
                                        refine tr_region [6, 7, 8, 19, 77, 78, 79] rfl rfl fun K hK => ?_
                                        iterate 2 refine evR_p ?_
                                        refine evR_e hK ?_; clear hK K
                                        refine hKL1 _ ?_
                                        exact ⟨m - 1, _, by omega, Wk.cut 0 rfl, i + 1, by omega, bool_or _, by rw [w64 (x := (i : Int) + 1) (by omega)]; rfl⟩
            · skip
              (first | (exfalso; simp_all [sameB_self]; done) | (exfalso; omega) | skip)
              all_goals
                refine tr_exit ?_
                simp only [thenE, inBlkE, Nat.reduceEqDiff, ↓reduceIte]
                refine hK10 _ ?_
                refine tr_seq fun K54 hK54 => ?_
                refine tr_region [18] rfl rfl fun K hK => ?_
                iterate 2 refine evR_p ?_
                refine evR_e hK ?_; clear hK K
                refine hK54 _ ?_
                refine tr_ret ?_
                (try simp only [thenE, inBlkE])
                simp (maxSteps := 4000000) (disch := first | assumption | omega | (simp only [go_sem, *]; done) | (simp only [go_sem, *]; omega)) only [postA, postO, resV1, fzAll, go_sem, hq, Int.reduceToNat, Nat.reduceBEq, Nat.reduceEqDiff, Nat.reduceAdd, Nat.reduceMul, Nat.reduceLeDiff, Nat.reduceLT, Nat.reduceSub, ↓reduceIte, reduceCtorEq]
                all_goals (rfl)
end

end Go.Proofs.Ytcphhbiehaimeaa

