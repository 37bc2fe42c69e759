import Derived.Test.YtcphhbiehaimeaaF23
import Derived.Test.YtcphhbiehaimeaaAi24
import Derived.Test.YtcphhbiehaimeaaP23
import Derived.Test.YtcphhbiehaimeaaC23h
import Derived.Test.YtcphhbiehaimeaaC23i
import Derived.Test.YtcphhbiehaimeaaPC23
import Derived.Test.YtcphhbiehaimeaaC23a
namespace Go.Proofs.Ytcphhbiehaimeaa
open Go.RowKit
set_option linter.unusedVariables false
set_option linter.unusedSimpArgs false
set_option maxRecDepth 100000
attribute [local go_sem] Nat.zero_add Nat.add_zero Nat.mul_one eq_self ne_eq not_true_eq_false not_false_eq_true decide_true decide_false decide_not Bool.false_eq_true List.filter_cons List.filter_nil true_and and_true beq_false beq_true Bool.not_true Bool.not_false Bool.and_true Bool.true_and Option.getD_some Option.getD_none imp_self implies_true Int.toNat_natCast List.cons_append List.nil_append List.map_cons List.map_nil List.length_cons List.length_nil List.getD_cons_zero List.getD_cons_succ List.drop_zero List.drop_succ_cons List.take_succ_cons List.take_zero
attribute [local go_sem] isE isO stpO notIn St.bare evO evDO isEff stp St.get St.slot St.put List.lookup un unL ofVal gof nth pickV pkB_false pkB_true binV unV loadV idxV fldV partV buildV fillV lenV sliV appV appR rowsV winV V.parts V.okp V.sc Mem.look_cons Mem.look_nil V.cl V.clL AObj.clo fzAll exps St.fz Mem.fz V.fz V.fzL AObj.fz Option.isSome_some Option.isSome_none Bool.or_true Bool.true_or Bool.or_false Bool.false_or false_and and_false false_or or_false arT_22 arT_23 arT_24 arT_27 arT_34 arT_35 arT_50 arT_59 arT_61 arT_64 arT_65 arT_68 boolT_24 boolT_3 boolT_38 boolT_4 boolT_79 flatT_24 flatT_3 flatT_38 flatT_4 flatT_79 intT_3 intT_93 lay_23 lay_24 lay_26 lay_27 lay_29 lay_3 lay_32 lay_35 lay_37 lay_4 lay_59 lay_68 lay_70 lay_79 lay_82 lay_88 okF_10 okF_11 okF_12 okF_13 okF_14 okF_15 okF_16 okF_17 okF_18 okF_19 okF_20 okF_21 okF_22 okF_23 okF_24 okF_25 okF_26 okF_27 okF_28 okF_29 okF_3 okF_30 okF_31 okF_32 okF_33 okF_34 okF_35 okF_36 okF_37 okF_38 okF_39 okF_4 okF_40 okF_41 okF_42 okF_43 okF_44 okF_45 okF_46 okF_47 okF_48 okF_49 okF_5 okF_50 okF_51 okF_52 okF_53 okF_54 okF_55 okF_56 okF_57 okF_58 okF_59 okF_6 okF_60 okF_61 okF_62 okF_63 okF_64 okF_65 okF_66 okF_67 okF_68 okF_69 okF_7 okF_70 okF_71 okF_72 okF_73 okF_74 okF_75 okF_8 okF_9 plT_26 plT_29 plT_37 plT_70 plT_79 slT_22 slT_23 slT_24 slT_27 slT_34 slT_35 slT_50 slT_59 slT_61 slT_64 slT_65 slT_68 stT_26_0 stT_26_1 stT_26_2 stT_26_3 stT_26_4 stT_26_5 stT_29_0 stT_29_1 stT_29_2 stT_37_0 stT_37_1 stT_37_2 stT_37_3 stT_70_0 stT_70_1 stT_70_2 stT_70_3 stT_79_0 stT_79_1 zeroT_24 zeroT_26 zeroT_29 zeroT_3 zeroT_32 zeroT_35 zeroT_37 zeroT_59 zeroT_65 zeroT_70 zeroT_79
attribute [local go_sem] List.getElem?_cons_zero List.getElem?_cons_succ List.zip_cons_cons List.zip_nil_left List.zip_nil_right Bool.false_and Bool.and_false List.length_append List.length_set List.length_replicate List.all_cons List.all_nil encI_length encI_getD encR_length encR_getD encRw encPg spl shp AObj.shp rowM isSt isRpS isRd csh AObj.csh forall_const imp_self
attribute [local simp] encI_length encR_length
section
attribute [local go_sem] encR_one
set_option maxHeartbeats 4000000 in
theorem c30 (p : Pg) (hr : p.rows.length ≤ maxLen) (hg : p.gain.length ≤ maxLen) (hc : ∀ r ∈ p.rows, r.coef.length ≤ maxLen) (rows : List Int) (hw : rows.length ≤ maxLen) : CallsA Try.prog 30 [.agg (encPg p), .sl 1 (encI rows)] (.tup (wthV p rows)) := by
  unfold maxLen at hw
  have hr0 := hr
  unfold maxLen at hr0
  have hq : True := trivial
  refine callsA_of_tr Try.func30 rfl (Nat.le_of_ble_eq_true rfl) ?_
  simp only [Try.results30, envOf, Nat.reduceAdd]
  refine tr_seq fun K1 hK1 => ?_
  refine tr_region [1, 2, 4] rfl rfl fun K hK => ?_
  iterate 3 refine evR_p ?_
  refine evR_e hK ?_; clear hK K
  refine hK1 _ ?_
  refine tr_seq fun K2 hK2 => ?_
  refine tr_seq fun K3 hK3 => ?_
  refine tr_region [1, 2, 4, 13, 14, 15] rfl rfl fun K hK => ?_
  iterate 3 refine evR_p ?_
  refine evR_e hK ?_; clear hK K
  refine hK3 _ ?_
  refine tr_block ?_
  -- loop 1: live [1, 2, 4, 13, 14, 15]
  refine tr_loopW (fun m σ => ∃ i : Nat, i + m = rows.length ∧ okTo p rows i = true ∧ σ = ⟨[(1, .sl 1 (encI rows)), (2, .ptr 0 0), (4, .ptr 1 0), (13, .sl 1 (encI rows)), (14, .int .i64 rows.length), (15, .int .i64 (i : Nat))], [(1, .cells [.int .i64 0, .nsl, .nsl]), (0, .cells (encPg p))], 2⟩) (rows.length) ?_ ?_
  · exact ⟨_, Wk.refl _, 0, by omega, rfl, rfl⟩
  · rintro m σ ⟨i, hi, hk, rfl⟩ KL1 hKL1
    refine tr_seq fun K4 hK4 => ?_
    refine tr_region [1, 2, 4, 13, 14, 15, 16] rfl rfl fun K hK => ?_
    refine evR_p ?_
    refine evR_e hK ?_; clear hK K
    refine hK4 _ ?_
    refine tr_seq fun K5 hK5 => ?_
    refine tr_condB (fun ht1 => ?_) (fun ht1 => ?_)
    · skip
      have hil : i < rows.length := by omega
      have hwi : 0 < (i : Int) → IntKind.i64.wrap ((i : Int) - 1) = ((i - 1 : Nat) : Int) := fun h => by rw [w64 (by omega)]; omega
      replace hq := And.intro hq (And.intro hil (hwi))
      refine tr_skip ?_
      (try simp only [thenE, inBlkE])
      refine hK5 _ ?_
      refine tr_seq fun K6 hK6 => ?_
      refine tr_block ?_
      refine tr_seq fun K7 hK7 => ?_
      refine tr_region [1, 2, 4, 6, 7, 13, 14, 15] rfl rfl fun K hK => ?_
      iterate 5 refine evR_p ?_
      refine evR_e hK ?_; clear hK K
      refine hK7 _ ?_
      refine tr_seq fun K8 hK8 => ?_
      refine tr_region [1, 2, 4, 13, 14, 15, 39] rfl rfl fun K hK => ?_
      iterate 5 refine evR_p ?_
      refine evR_c (hc := (c49 _ _ _)) (k := ?_)
      iterate 2 refine evR_p ?_
      iterate 11 refine evR_g ?_
      refine evR_p ?_
      refine evR_e hK ?_; clear hK K
      refine hK8 _ ?_
      refine tr_condB (fun ht2 => ?_) (fun ht2 => ?_)
      · skip
        refine tr_seq fun K9 hK9 => ?_
        refine tr_region [4, 5] rfl rfl fun K hK => ?_
        iterate 3 refine evR_p ?_
        refine evR_e hK ?_; clear hK K
        refine hK9 _ ?_
        refine tr_ret ?_
        (try simp only [thenE, inBlkE])
        simp (maxSteps := 4000000) (disch := first | assumption | omega | (simp only [go_sem, *]; done) | (simp only [go_sem, *]; omega)) only [postA, postO, resV1, fzAll, go_sem, hq, Int.reduceToNat, Nat.reduceBEq, Nat.reduceEqDiff, Nat.reduceAdd, Nat.reduceMul, Nat.reduceLeDiff, Nat.reduceLT, Nat.reduceSub, ↓reduceIte, reduceCtorEq]
        all_goals (first | (rw [wthV_t hk (by assumption)]; rfl) | (rw [wthV_f2 (by assumption)]; done) | (rw [wthV_f1 (okTo_f hil (idx_no ht2))]; done))
      · skip
        refine tr_skip ?_
        (try simp only [thenE, inBlkE])
        refine hK6 _ ?_
        refine tr_region [1, 2, 4, 13, 14, 15] rfl rfl fun K hK => ?_
        iterate 2 refine evR_p ?_
        refine evR_e hK ?_; clear hK K
        refine hKL1 _ ?_
        exact ⟨m - 1, _, by omega, Wk.cut 2 rfl, i + 1, by omega, okTo_t hk (idx_fin ht2), by rw [w64 (x := (i : Int) + 1) (by omega)]; rfl⟩
    · skip
      have hil : i = rows.length := by omega
      subst hil
      refine tr_exit ?_
      simp only [thenE, inBlkE, Nat.reduceEqDiff, ↓reduceIte]
      refine hK2 _ ?_
      refine tr_seq fun K10 hK10 => ?_
      refine tr_seq fun K11 hK11 => ?_
      refine tr_region [1, 2, 4, 44] rfl rfl fun K hK => ?_
      refine evR_p ?_
      refine evR_c (hc := (c20 p hr hg hc)) (k := ?_)
      refine evR_p ?_
      refine evR_e hK ?_; clear hK K
      refine hK11 _ ?_
      refine tr_condB (fun ht3 => ?_) (fun ht3 => ?_)
      · skip
        refine tr_seq fun K12 hK12 => ?_
        refine tr_region [4, 5] rfl rfl fun K hK => ?_
        iterate 3 refine evR_p ?_
        refine evR_e hK ?_; clear hK K
        refine hK12 _ ?_
        refine tr_ret ?_
        (try simp only [thenE, inBlkE])
        simp (maxSteps := 4000000) (disch := first | assumption | omega | (simp only [go_sem, *]; done) | (simp only [go_sem, *]; omega)) only [postA, postO, resV1, fzAll, go_sem, hq, Int.reduceToNat, Nat.reduceBEq, Nat.reduceEqDiff, Nat.reduceAdd, Nat.reduceMul, Nat.reduceLeDiff, Nat.reduceLT, Nat.reduceSub, ↓reduceIte, reduceCtorEq]
        all_goals (first | (rw [wthV_t hk (by assumption)]; rfl) | (rw [wthV_f2 (by assumption)]; done) | (rw [wthV_f1 (okTo_f hil (idx_no ht2))]; done))
      · skip
        refine tr_skip ?_
        (try simp only [thenE, inBlkE])
        refine hK10 _ ?_
        refine tr_seq fun K13 hK13 => ?_
        refine tr_fz [.ptr 0 0] (by simp (maxSteps := 4000000) (disch := first | assumption | omega | (simp only [go_sem, *]; done) | (simp only [go_sem, *]; omega)) only [go_sem, hq, Int.reduceToNat, Nat.reduceBEq, Nat.reduceEqDiff, Nat.reduceAdd, Nat.reduceMul, Nat.reduceLeDiff, Nat.reduceLT, Nat.reduceSub, ↓reduceIte, reduceCtorEq]; (try rfl)) ?_
        refine tr_draw [47, 49] [1, 2, 4, 8] mixed rfl (by kernel_rfl) rfl fun K hK => ?_
        iterate 4 refine evD_p ?_
        refine evD_c (hc := (c56 p.gain (gain_1000 (by assumption)))) (k := ?_)
        iterate 3 refine evD_p ?_
        refine evD_e hK ?_; clear hK K
        refine hK13 _ ?_
        refine tr_seq fun K14 hK14 => ?_
        refine tr_seq fun K15 hK15 => ?_
        refine tr_region [1, 4, 8, 53, 54, 55] rfl rfl fun K hK => ?_
        iterate 4 refine evR_p ?_
        refine evR_e hK ?_; clear hK K
        refine hK15 _ ?_
        refine tr_block ?_
        -- loop 2: live [1, 4, 8, 53, 54, 55]
        refine tr_loopW (fun m σ => ∃ i : Nat, i + m = p.rows.length ∧ σ = ⟨[(1, .sl 1 (encI rows)), (4, .ptr 1 0), (8, .ptr 2 0), (53, .sl 6 (encR p.rows)), (54, .int .i64 p.rows.length), (55, .int .i64 (i : Nat))], [(3, .row 26 6 (encR (keepTo p rows i))), (2, .cells [.int .i64 p.vars, .own 3, .sl 1 (encI p.gain)]), (1, .cells [.int .i64 0, .nsl, .nsl])], 4⟩) (p.rows.length) ?_ ?_
        · exact ⟨_, (Wk.nilown 26 6 2 1 rfl (Nat.le_of_ble_eq_true rfl) rfl), 0, by omega, rfl⟩
        · rintro m σ ⟨i, hi, rfl⟩ KL2 hKL2
          refine tr_seq fun K16 hK16 => ?_
          refine tr_region [1, 4, 8, 53, 54, 55, 56] rfl rfl fun K hK => ?_
          refine evR_p ?_
          refine evR_e hK ?_; clear hK K
          refine hK16 _ ?_
          refine tr_seq fun K17 hK17 => ?_
          refine tr_condB (fun ht4 => ?_) (fun ht4 => ?_)
          · skip
            have hil : i < p.rows.length := by omega
            have hkl := keepTo_length p rows i
            have hr3 : p.rows.length ≤ 300 := (validB_all (p := p) (by assumption)).2.2.1
            replace hq := And.intro hq (hil)
            refine tr_skip ?_
            (try simp only [thenE, inBlkE])
            refine hK17 _ ?_
            refine tr_seq fun K18 hK18 => ?_
            refine tr_block ?_
            refine tr_seq fun K19 hK19 => ?_
            refine tr_region [1, 4, 8, 9, 10, 53, 54, 55] rfl rfl fun K hK => ?_
            iterate 6 refine evR_p ?_
            refine evR_e hK ?_; clear hK K
            refine hK19 _ ?_
            refine tr_seq fun K20 hK20 => ?_
            refine tr_region [1, 4, 8, 10, 12, 53, 54, 55] rfl rfl fun K hK => ?_
            iterate 2 refine evR_p ?_
            refine evR_c (hc := (c57 rows (i : Nat) (okRows_srt (p := p) hk) (okRows_1000 (p := p) hk (by assumption)))) (k := ?_)
            iterate 5 refine evR_p ?_
            refine evR_e hK ?_; clear hK K
            refine hK20 _ ?_
            refine tr_seq fun K21 hK21 => ?_
            refine tr_region [1, 4, 8, 10, 53, 54, 55, 67] rfl rfl fun K hK => ?_
            iterate 2 refine evR_p ?_
            refine evR_e hK ?_; clear hK K
            refine hK21 _ ?_
            refine tr_condB (fun ht5 => ?_) (fun ht5 => ?_)
            · skip
              refine tr_seq fun K22 hK22 => ?_
              refine tr_region [1, 4, 8, 10, 53, 54, 55] rfl rfl fun K hK => ?_
              iterate 2 refine evR_p ?_
              refine evR_c (hc := (c56 (p.rows.getD i rw0).coef (coef_1000 (p := p) (by assumption) hil))) (k := ?_)
              iterate 2 refine evR_p ?_
              refine evR_e hK ?_; clear hK K
              refine hK22 _ ?_
              refine tr_region [1, 4, 8, 53, 54, 55] rfl rfl fun K hK => ?_
              iterate 3 refine evR_p ?_
              refine evR_bs ?_
              iterate 3 refine evR_p ?_
              refine evR_e hK ?_; clear hK K
              refine hK18 _ ?_
              refine tr_region [1, 4, 8, 53, 54, 55] rfl rfl fun K hK => ?_
              iterate 2 refine evR_p ?_
              refine evR_e hK ?_; clear hK K
              refine hKL2 _ ?_
              first
                | exact ⟨m - 1, _, by omega, Wk.cut 4 rfl, i + 1, by omega, by rw [keepTo_t (by assumption), w64 (x := (i : Int) + 1) (by omega)]; rfl⟩
                | exact ⟨m - 1, _, by omega, (Wk.trans (Wk.ren 5 3 (Nat.le_of_ble_eq_true rfl) (Nat.le_of_ble_eq_true rfl) rfl) (Wk.cut 4 rfl)), i + 1, by omega, by rw [w64 (x := (i : Int) + 1) (by omega), keepTo_f (by assumption)]; rfl⟩
            · skip
              refine tr_skip ?_
              (try simp only [thenE, inBlkE])
              refine hK18 _ ?_
              refine tr_region [1, 4, 8, 53, 54, 55] rfl rfl fun K hK => ?_
              iterate 2 refine evR_p ?_
              refine evR_e hK ?_; clear hK K
              refine hKL2 _ ?_
              first
                | exact ⟨m - 1, _, by omega, Wk.cut 4 rfl, i + 1, by omega, by rw [keepTo_t (by assumption), w64 (x := (i : Int) + 1) (by omega)]; rfl⟩
                | exact ⟨m - 1, _, by omega, (Wk.trans (Wk.ren 5 3 (Nat.le_of_ble_eq_true rfl) (Nat.le_of_ble_eq_true rfl) rfl) (Wk.cut 4 rfl)), i + 1, by omega, by rw [w64 (x := (i : Int) + 1) (by omega), keepTo_f (by assumption)]; rfl⟩
          · skip
            have hil : i = p.rows.length := by omega
            subst hil
            refine tr_exit ?_
            simp only [thenE, inBlkE, Nat.reduceEqDiff, ↓reduceIte]
            refine hK14 _ ?_
            refine tr_seq fun K23 hK23 => ?_
            refine tr_region [4, 5] rfl rfl fun K hK => ?_
            iterate 3 refine evR_p ?_
            refine evR_e hK ?_; clear hK K
            refine hK23 _ ?_
            refine tr_ret ?_
            (try simp only [thenE, inBlkE])
            simp (maxSteps := 4000000) (disch := first | assumption | omega | (simp only [go_sem, *]; done) | (simp only [go_sem, *]; omega)) only [postA, postO, resV1, fzAll, go_sem, hq, Int.reduceToNat, Nat.reduceBEq, Nat.reduceEqDiff, Nat.reduceAdd, Nat.reduceMul, Nat.reduceLeDiff, Nat.reduceLT, Nat.reduceSub, ↓reduceIte, reduceCtorEq]
            all_goals (first | (rw [wthV_t hk (by assumption)]; rfl) | (rw [wthV_f2 (by assumption)]; done) | (rw [wthV_f1 (okTo_f hil (idx_no ht2))]; done))
end

end Go.Proofs.Ytcphhbiehaimeaa

