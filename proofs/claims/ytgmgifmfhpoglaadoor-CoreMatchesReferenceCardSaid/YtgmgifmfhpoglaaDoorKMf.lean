/- Texts of this proof, put together. -/
import Derived.Test.YtgmgifmfhpoglaaDoorKMb
import Derived.Test.YtgmgifmfhpoglaaDoorKMc
import Derived.Test.YtgmgifmfhpoglaaDoorKMe
import Derived.Test.YtgmgifmfhpoglaaDoorKMd
import Derived.Test.YtgmgifmfhpoglaaDoorChecked
import Derived.Test.YtgmgifmfhpoglaaDoorRows
import Derived.ProofKit
import Derived.LaidMore
import Derived.OpenShut
import Derived.Stop.Joined
namespace Go.Proofs.YtgmgifmfhpoglaaDoor
open Go.RowKit
set_option linter.unusedVariables false
set_option linter.unusedSimpArgs false
set_option maxRecDepth 100000
attribute [local go_sem] Nat.zero_add Nat.add_zero Nat.mul_one eq_self ne_eq not_true_eq_false not_false_eq_true decide_true decide_false decide_not Bool.false_eq_true List.filter_cons List.filter_nil true_and and_true beq_false beq_true Bool.not_true Bool.not_false Bool.and_true Bool.true_and Option.getD_some Option.getD_none imp_self implies_true Int.toNat_natCast List.cons_append List.nil_append List.map_cons List.map_nil List.length_cons List.length_nil List.getD_cons_zero List.getD_cons_succ List.drop_zero List.drop_succ_cons List.take_succ_cons List.take_zero
attribute [local go_sem] isE isO stpO notIn St.bare evO evDO isEff stp St.get St.slot St.put List.lookup un unL ofVal gof nth pickV pkB_false pkB_true binV unV loadV idxV fldV partV buildV fillV lenV sliV appV appR rowsV winV V.parts V.okp V.sc Mem.look_cons Mem.look_nil V.cl V.clL AObj.clo fzAll exps St.fz Mem.fz V.fz V.fzL AObj.fz Option.isSome_some Option.isSome_none Bool.or_true Bool.true_or Bool.or_false Bool.false_or false_and and_false false_or or_false arT_102 arT_103 arT_22 arT_23 arT_26 arT_27 arT_31 arT_38 arT_45 arT_55 arT_85 arT_86 arT_9 boolT_100 boolT_23 boolT_3 boolT_32 boolT_4 boolT_98 flatT_100 flatT_23 flatT_3 flatT_32 flatT_4 flatT_98 intT_100 intT_3 intT_5 intT_81 intT_83 intT_98 lay_22 lay_23 lay_25 lay_27 lay_3 lay_37 lay_4 lay_45 lay_47 lay_5 lay_54 lay_61 lay_66 lay_82 lay_88 okF_10 okF_11 okF_12 okF_13 okF_14 okF_15 okF_16 okF_17 okF_18 okF_19 okF_20 okF_21 okF_22 okF_23 okF_24 okF_25 okF_26 okF_27 okF_28 okF_29 okF_3 okF_30 okF_31 okF_32 okF_33 okF_34 okF_35 okF_36 okF_37 okF_38 okF_39 okF_4 okF_40 okF_41 okF_42 okF_43 okF_44 okF_45 okF_46 okF_47 okF_48 okF_49 okF_5 okF_50 okF_51 okF_52 okF_53 okF_54 okF_55 okF_56 okF_57 okF_58 okF_59 okF_6 okF_60 okF_61 okF_62 okF_63 okF_64 okF_65 okF_66 okF_67 okF_68 okF_69 okF_7 okF_70 okF_71 okF_72 okF_73 okF_74 okF_75 okF_76 okF_77 okF_78 okF_79 okF_8 okF_80 okF_81 okF_82 okF_83 okF_84 okF_85 okF_86 okF_87 okF_88 okF_89 okF_9 plT_25 plT_47 plT_54 plT_93 plT_96 slT_102 slT_103 slT_22 slT_23 slT_26 slT_27 slT_31 slT_38 slT_45 slT_55 slT_85 slT_86 slT_94 stT_25_0 stT_25_1 stT_25_2 stT_47_0 stT_47_2 stT_47_3 stT_54_4 stT_54_5 stT_96_1 stT_96_2 strT_9 zeroT_23 zeroT_25 zeroT_3 zeroT_37 zeroT_4 zeroT_45 zeroT_47 zeroT_54 zeroT_55 zeroT_66 zeroT_82 zeroT_85 zeroT_86 zeroT_93 zeroT_96
attribute [local go_sem] List.getElem?_cons_zero List.getElem?_cons_succ List.zip_cons_cons List.zip_nil_left List.zip_nil_right Bool.false_and Bool.and_false List.length_append List.length_set List.length_replicate List.all_cons List.all_nil encI_length encI_getD encR_length encR_getD encRw encPg spl shp AObj.shp rowM isSt isRpS isRd csh AObj.csh forall_const imp_self
attribute [local simp] encI_length encR_length cellsI_length
set_option maxHeartbeats 4000000 in
theorem k13 (p : Pg) (hr : p.rows.length ≤ maxLen) (hg : p.gain.length ≤ maxLen) (hc : ∀ r ∈ p.rows, r.coef.length ≤ maxLen) (hs : smallB p = true) : CallsA Tryd.prog 13 [.agg (encPg p)] (.tup [.sl 1 (encI (coreU p)), .int .i64 (errU p)]) := by
  obtain ⟨hn, hv⟩ := smallB_spec hs
  have hpn := pow_4096 hn
  have hpp := Nat.two_pow_pos p.rows.length
  have hn5 : shlW .i64 1 (p.rows.length : Nat) = ((2 ^ p.rows.length : Nat) : Int) := shl_pow hn
  have hbr := brA_len hv
  have hbx : ∀ x ∈ brA p, 0 ≤ x ∧ x < 4096 := brL_range hn
  obtain ⟨cu1, cu2, cu3⟩ := coreU_s hs
  have hq := And.intro hs (hn5)
  refine callsA_of_trL Tryd.func13 rfl (Nat.le_of_ble_eq_true rfl) ?_
  simp only [Tryd.results13, envOf, Nat.reduceAdd]
  refine tr_seq fun K1 hK1 => ?_
  refine tr_region [1] rfl rfl fun K hK => ?_
  iterate 3 refine evR_p ?_
  refine evR_e hK ?_; clear hK K
  refine hK1 _ ?_
  refine tr_seq fun K2 hK2 => ?_
  refine tr_seq fun K3 hK3 => ?_
  refine tr_region [1, 9] rfl rfl fun K hK => ?_
  refine evR_p ?_
  refine evR_c (hc := (k36 p hr hg hc)) (k := ?_)
  refine evR_p ?_
  refine evR_e hK ?_; clear hK K
  refine hK3 _ ?_
  refine tr_condB (fun ht1 => ?_) (fun ht1 => ?_)
  · skip
    (first | (exfalso; simp_all; done) | (have hrp := rfC_pos hpn ht4; obtain ⟨t, hrt, ht4, hrr⟩ := hrp; replace hq := And.intro hq hrt) | skip)
    all_goals
      refine tr_seq fun K4 hK4 => ?_
      refine tr_region [2, 3] rfl rfl fun K hK => ?_
      iterate 2 refine evR_p ?_
      refine evR_e hK ?_; clear hK K
      refine hK4 _ ?_
      refine tr_ret ?_
      (try simp only [thenE, inBlkE])
      simp (maxSteps := 4000000) (disch := first | assumption | omega | (simp only [go_sem, *]; done) | (simp only [go_sem, *]; omega)) only [postA, postO, resV1, fzAll, go_sem, hq, Int.reduceToNat, Nat.reduceBEq, Nat.reduceEqDiff, Nat.reduceAdd, Nat.reduceMul, Nat.reduceLeDiff, Nat.reduceLT, Nat.reduceSub, ↓reduceIte, reduceCtorEq]
      all_goals (first | (rw [cu1, cu3]; unfold coreL; rw [← hrr]; exact .refl _) | (rw [cu1, cu3]; unfold coreL; rw [rfC_neg hpn (by assumption)]; exact .tup (.cons (.nsl 1) (.cons (.refl _) .nil))))
  · skip
    (first | (exfalso; simp_all; done) | (have hrp := rfC_pos hpn ht4; obtain ⟨t, hrt, ht4, hrr⟩ := hrp; replace hq := And.intro hq hrt) | skip)
    all_goals
      refine tr_skip ?_
      (try simp only [thenE, inBlkE])
      refine hK2 _ ?_
      refine tr_seq fun K5 hK5 => ?_
      refine tr_region [1, 4] rfl rfl fun K hK => ?_
      refine evR_p ?_
      refine evR_c (hc := (k37 p hr hg hc hv hn)) (k := ?_)
      refine evR_p ?_
      refine evR_e hK ?_; clear hK K
      refine hK5 _ ?_
      refine tr_seq fun K6 hK6 => ?_
      refine tr_region [1, 4, 5] rfl rfl fun K hK => ?_
      refine evR_p ?_
      refine evR_e hK ?_; clear hK K
      refine hK6 _ ?_
      refine tr_seq fun K7 hK7 => ?_
      refine tr_seq fun K8 hK8 => ?_
      refine tr_region [1, 4, 5, 6] rfl rfl fun K hK => ?_
      refine evR_p ?_
      refine evR_e hK ?_; clear hK K
      refine hK8 _ ?_
      refine tr_block ?_
      -- loop 1: live [1, 4, 5, 6]
      refine tr_loopW (fun m σ => ∃ s : Nat, s + m = 2 ^ p.rows.length ∧ σ = ⟨[(1, .ptr 0 0), (4, .sl 1 (encI (brA p))), (5, .int .i64 (rfC (confS p) s)), (6, .int .i64 (s : Nat))], [(0, .cells (encPg p))], 1⟩) (2 ^ p.rows.length) ?_ ?_
      · exact ⟨_, Wk.refl _, 0, by omega, rfl⟩
      · rintro m σ ⟨s, hs2, rfl⟩ KL1 hKL1
        refine tr_seq fun K9 hK9 => ?_
        refine tr_seq fun K10 hK10 => ?_
        refine tr_region [1, 4, 5, 6, 17] rfl rfl fun K hK => ?_
        iterate 6 refine evR_p ?_
        refine evR_e hK ?_; clear hK K
        refine hK10 _ ?_
        refine tr_condB (fun ht2 => ?_) (fun ht2 => ?_)
        · skip
          (first | (exfalso; simp_all; done) | (have hrp := rfC_pos hpn ht4; obtain ⟨t, hrt, ht4, hrr⟩ := hrp; replace hq := And.intro hq hrt) | skip)
          all_goals
            have hsl : s < 2 ^ p.rows.length := by omega
            replace hq := And.intro hq (hsl)
            refine tr_skip ?_
            (try simp only [thenE, inBlkE])
            refine hK9 _ ?_
            refine tr_seq fun K11 hK11 => ?_
            refine tr_block ?_
            refine tr_seq fun K12 hK12 => ?_
            refine tr_region [1, 4, 5, 6, 31] rfl rfl fun K hK => ?_
            iterate 2 refine evR_p ?_
            refine evR_c (hc := (cfR_A hv hn hsl ▸ k38 (brA p) s hbr hbx (by omega))) (k := ?_)
            refine evR_p ?_
            iterate 5 refine evR_g ?_
            refine evR_gch (hc := fun hgt => (k39i s (rfC (confS p) s) (by omega) (rfC_g hgt).1 (rfC_g2 (by omega) hgt))) (k := ?_)
            refine evR_g ?_
            refine evR_p ?_
            refine evR_e hK ?_; clear hK K
            refine hK12 _ ?_
            refine tr_condB (fun ht3 => ?_) (fun ht3 => ?_)
            · skip
              (first | (exfalso; simp_all; done) | (have hrp := rfC_pos hpn ht4; obtain ⟨t, hrt, ht4, hrr⟩ := hrp; replace hq := And.intro hq hrt) | skip)
              all_goals
                refine tr_region [1, 4, 5, 6] rfl rfl fun K hK => ?_
                iterate 2 refine evR_p ?_
                refine evR_e hK ?_; clear hK K
                refine hK11 _ ?_
                refine tr_region [1, 4, 5, 6] rfl rfl fun K hK => ?_
                iterate 3 refine evR_p ?_
                refine evR_e hK ?_; clear hK K
                refine hKL1 _ ?_
                first
                  | exact ⟨m - 1, _, by omega, Wk.refl _, s + 1, by omega, by rw [w64 (x := (s : Int) + 1) (by omega), rfC_t (by assumption)]; rfl⟩
                  | exact ⟨m - 1, _, by omega, Wk.refl _, s + 1, by omega, by rw [w64 (x := (s : Int) + 1) (by omega), rfC_f (by assumption)]; rfl⟩
            · skip
              (first | (exfalso; simp_all; done) | (have hrp := rfC_pos hpn ht4; obtain ⟨t, hrt, ht4, hrr⟩ := hrp; replace hq := And.intro hq hrt) | skip)
              all_goals
                refine tr_skip ?_
                (try simp only [thenE, inBlkE])
                refine hK11 _ ?_
                refine tr_region [1, 4, 5, 6] rfl rfl fun K hK => ?_
                iterate 3 refine evR_p ?_
                refine evR_e hK ?_; clear hK K
                refine hKL1 _ ?_
                first
                  | exact ⟨m - 1, _, by omega, Wk.refl _, s + 1, by omega, by rw [w64 (x := (s : Int) + 1) (by omega), rfC_t (by assumption)]; rfl⟩
                  | exact ⟨m - 1, _, by omega, Wk.refl _, s + 1, by omega, by rw [w64 (x := (s : Int) + 1) (by omega), rfC_f (by assumption)]; rfl⟩
        · skip
          (first | (exfalso; simp_all; done) | (have hrp := rfC_pos hpn ht4; obtain ⟨t, hrt, ht4, hrr⟩ := hrp; replace hq := And.intro hq hrt) | skip)
          all_goals
            have hsl : s = 2 ^ p.rows.length := by omega
            subst hsl
            refine tr_exit ?_
            simp only [thenE, inBlkE, Nat.reduceEqDiff, ↓reduceIte]
            refine hK7 _ ?_
            refine tr_seq fun K13 hK13 => ?_
            refine tr_seq fun K14 hK14 => ?_
            refine tr_region [5, 34] rfl rfl fun K hK => ?_
            iterate 2 refine evR_p ?_
            refine evR_e hK ?_; clear hK K
            refine hK14 _ ?_
            refine tr_condB (fun ht4 => ?_) (fun ht4 => ?_)
            · skip
              (first | (exfalso; simp_all; done) | (have hrp := rfC_pos hpn ht4; obtain ⟨t, hrt, ht4, hrr⟩ := hrp; replace hq := And.intro hq hrt) | skip)
              all_goals
                refine tr_seq fun K15 hK15 => ?_
                refine tr_region [2, 3] rfl rfl fun K hK => ?_
                iterate 2 refine evR_p ?_
                refine evR_e hK ?_; clear hK K
                refine hK15 _ ?_
                refine tr_ret ?_
                (try simp only [thenE, inBlkE])
                simp (maxSteps := 4000000) (disch := first | assumption | omega | (simp only [go_sem, *]; done) | (simp only [go_sem, *]; omega)) only [postA, postO, resV1, fzAll, go_sem, hq, Int.reduceToNat, Nat.reduceBEq, Nat.reduceEqDiff, Nat.reduceAdd, Nat.reduceMul, Nat.reduceLeDiff, Nat.reduceLT, Nat.reduceSub, ↓reduceIte, reduceCtorEq]
                all_goals (first | (rw [cu1, cu3]; unfold coreL; rw [← hrr]; exact .refl _) | (rw [cu1, cu3]; unfold coreL; rw [rfC_neg hpn (by assumption)]; exact .tup (.cons (.nsl 1) (.cons (.refl _) .nil))))
            · skip
              (first | (exfalso; simp_all; done) | (have hrp := rfC_pos hpn ht4; obtain ⟨t, hrt, ht4, hrr⟩ := hrp; replace hq := And.intro hq hrt) | skip)
              all_goals
                refine tr_skip ?_
                (try simp only [thenE, inBlkE])
                refine hK13 _ ?_
                refine tr_seq fun K16 hK16 => ?_
                refine tr_region [2, 3] rfl rfl fun K hK => ?_
                refine evR_p ?_
                refine evR_c (hc := (k17 t ht4)) (k := ?_)
                iterate 2 refine evR_p ?_
                refine evR_e hK ?_; clear hK K
                refine hK16 _ ?_
                refine tr_ret ?_
                (try simp only [thenE, inBlkE])
                simp (maxSteps := 4000000) (disch := first | assumption | omega | (simp only [go_sem, *]; done) | (simp only [go_sem, *]; omega)) only [postA, postO, resV1, fzAll, go_sem, hq, Int.reduceToNat, Nat.reduceBEq, Nat.reduceEqDiff, Nat.reduceAdd, Nat.reduceMul, Nat.reduceLeDiff, Nat.reduceLT, Nat.reduceSub, ↓reduceIte, reduceCtorEq]
                all_goals (first | (rw [cu1, cu3]; unfold coreL; rw [← hrr]; exact .refl _) | (rw [cu1, cu3]; unfold coreL; rw [rfC_neg hpn (by assumption)]; exact .tup (.cons (.nsl 1) (.cons (.refl _) .nil))))

set_option maxHeartbeats 4000000 in
theorem k13n (p : Pg) (hr : p.rows.length ≤ maxLen) (hg : p.gain.length ≤ maxLen) (hc : ∀ r ∈ p.rows, r.coef.length ≤ maxLen) (hs : smallB p = false) : CallsA Tryd.prog 13 [.agg (encPg p)] (.tup [.sl 1 (encI (coreU p)), .int .i64 (errU p)]) := by
  have hq := hs
  refine callsA_of_trL Tryd.func13 rfl (Nat.le_of_ble_eq_true rfl) ?_
  simp only [Tryd.results13, envOf, Nat.reduceAdd]
  refine tr_seq fun K1 hK1 => ?_
  refine tr_region [1] rfl rfl fun K hK => ?_
  iterate 3 refine evR_p ?_
  refine evR_e hK ?_; clear hK K
  refine hK1 _ ?_
  refine tr_seq fun K2 hK2 => ?_
  refine tr_seq fun K3 hK3 => ?_
  refine tr_region [1, 9] rfl rfl fun K hK => ?_
  refine evR_p ?_
  refine evR_c (hc := (k36 p hr hg hc)) (k := ?_)
  refine evR_p ?_
  refine evR_e hK ?_; clear hK K
  refine hK3 _ ?_
  refine tr_condB (fun ht1 => ?_) (fun ht1 => ?_)
  · skip
    (first | (exfalso; simp_all; done) | skip)
    all_goals
      refine tr_seq fun K4 hK4 => ?_
      refine tr_region [2, 3] rfl rfl fun K hK => ?_
      iterate 2 refine evR_p ?_
      refine evR_e hK ?_; clear hK K
      refine hK4 _ ?_
      refine tr_ret ?_
      (try simp only [thenE, inBlkE])
      simp (maxSteps := 4000000) (disch := first | assumption | omega | (simp only [go_sem, *]; done) | (simp only [go_sem, *]; omega)) only [postA, postO, resV1, fzAll, go_sem, hq, Int.reduceToNat, Nat.reduceBEq, Nat.reduceEqDiff, Nat.reduceAdd, Nat.reduceMul, Nat.reduceLeDiff, Nat.reduceLT, Nat.reduceSub, ↓reduceIte, reduceCtorEq]
      all_goals ((rw [(coreU_n hs).1, (coreU_n hs).2.2]; exact .tup (.cons (.nsl 1) (.cons (.refl _) .nil))))
  · skip
    (first | (exfalso; simp_all; done) | skip)
    all_goals
      refine tr_skip ?_
      (try simp only [thenE, inBlkE])
      refine hK2 _ ?_
      refine tr_seq fun K5 hK5 => ?_
      refine tr_region [1, 4] rfl rfl fun K hK => ?_
      refine evR_p ?_
      refine evR_c (hc := (k37 p hr hg hc hv hn)) (k := ?_)
      refine evR_p ?_
      refine evR_e hK ?_; clear hK K
      refine hK5 _ ?_
      refine tr_seq fun K6 hK6 => ?_
      refine tr_region [1, 4, 5] rfl rfl fun K hK => ?_
      refine evR_p ?_
      refine evR_e hK ?_; clear hK K
      refine hK6 _ ?_
      refine tr_seq fun K7 hK7 => ?_
      refine tr_seq fun K8 hK8 => ?_
      refine tr_region [1, 4, 5, 6] rfl rfl fun K hK => ?_
      refine evR_p ?_
      refine evR_e hK ?_; clear hK K
      refine hK8 _ ?_
      refine tr_block ?_
      -- loop 1: live [1, 4, 5, 6]
      refine tr_loopW (fun m σ => ∃ s : Nat, s + m = 2 ^ p.rows.length ∧ σ = ⟨[(1, .ptr 0 0), (4, .sl 1 (encI (brA p))), (5, .int .i64 (rfC (confS p) s)), (6, .int .i64 (s : Nat))], [(0, .cells (encPg p))], 1⟩) (2 ^ p.rows.length) ?_ ?_
      · exact ⟨_, Wk.refl _, 0, by omega, rfl⟩
      · rintro m σ ⟨s, hs2, rfl⟩ KL1 hKL1
        refine tr_seq fun K9 hK9 => ?_
        refine tr_seq fun K10 hK10 => ?_
        refine tr_region [1, 4, 5, 6, 17] rfl rfl fun K hK => ?_
        iterate 6 refine evR_p ?_
        refine evR_e hK ?_; clear hK K
        refine hK10 _ ?_
        refine tr_condB (fun ht2 => ?_) (fun ht2 => ?_)
        · skip
          (first | (exfalso; simp_all; done) | skip)
          all_goals
            have hsl : s < 2 ^ p.rows.length := by omega
            replace hq := And.intro hq (hsl)
            refine tr_skip ?_
            (try simp only [thenE, inBlkE])
            refine hK9 _ ?_
            refine tr_seq fun K11 hK11 => ?_
            refine tr_block ?_
            refine tr_seq fun K12 hK12 => ?_
            refine tr_region [1, 4, 5, 6, 31] rfl rfl fun K hK => ?_
            iterate 2 refine evR_p ?_
            refine evR_c (hc := (cfR_A hv hn hsl ▸ k38 (brA p) s hbr hbx (by omega))) (k := ?_)
            refine evR_p ?_
            iterate 5 refine evR_g ?_
            refine evR_gch (hc := fun hgt => (k39i s (rfC (confS p) s) (by omega) (rfC_g hgt).1 (rfC_g2 (by omega) hgt))) (k := ?_)
            refine evR_g ?_
            refine evR_p ?_
            refine evR_e hK ?_; clear hK K
            refine hK12 _ ?_
            refine tr_condB (fun ht3 => ?_) (fun ht3 => ?_)
            · skip
              (first | (exfalso; simp_all; done) | skip)
              all_goals
                refine tr_region [1, 4, 5, 6] rfl rfl fun K hK => ?_
                iterate 2 refine evR_p ?_
                refine evR_e hK ?_; clear hK K
                refine hK11 _ ?_
                refine tr_region [1, 4, 5, 6] rfl rfl fun K hK => ?_
                iterate 3 refine evR_p ?_
                refine evR_e hK ?_; clear hK K
                refine hKL1 _ ?_
                first
                  | exact ⟨m - 1, _, by omega, Wk.refl _, s + 1, by omega, by rw [w64 (x := (s : Int) + 1) (by omega), rfC_t (by assumption)]; rfl⟩
                  | exact ⟨m - 1, _, by omega, Wk.refl _, s + 1, by omega, by rw [w64 (x := (s : Int) + 1) (by omega), rfC_f (by assumption)]; rfl⟩
            · skip
              (first | (exfalso; simp_all; done) | skip)
              all_goals
                refine tr_skip ?_
                (try simp only [thenE, inBlkE])
                refine hK11 _ ?_
                refine tr_region [1, 4, 5, 6] rfl rfl fun K hK => ?_
                iterate 3 refine evR_p ?_
                refine evR_e hK ?_; clear hK K
                refine hKL1 _ ?_
                first
                  | exact ⟨m - 1, _, by omega, Wk.refl _, s + 1, by omega, by rw [w64 (x := (s : Int) + 1) (by omega), rfC_t (by assumption)]; rfl⟩
                  | exact ⟨m - 1, _, by omega, Wk.refl _, s + 1, by omega, by rw [w64 (x := (s : Int) + 1) (by omega), rfC_f (by assumption)]; rfl⟩
        · skip
          (first | (exfalso; simp_all; done) | skip)
          all_goals
            have hsl : s = 2 ^ p.rows.length := by omega
            subst hsl
            refine tr_exit ?_
            simp only [thenE, inBlkE, Nat.reduceEqDiff, ↓reduceIte]
            refine hK7 _ ?_
            refine tr_seq fun K13 hK13 => ?_
            refine tr_seq fun K14 hK14 => ?_
            refine tr_region [5, 34] rfl rfl fun K hK => ?_
            iterate 2 refine evR_p ?_
            refine evR_e hK ?_; clear hK K
            refine hK14 _ ?_
            refine tr_condB (fun ht4 => ?_) (fun ht4 => ?_)
            · skip
              (first | (exfalso; simp_all; done) | skip)
              all_goals
                refine tr_seq fun K15 hK15 => ?_
                refine tr_region [2, 3] rfl rfl fun K hK => ?_
                iterate 2 refine evR_p ?_
                refine evR_e hK ?_; clear hK K
                refine hK15 _ ?_
                refine tr_ret ?_
                (try simp only [thenE, inBlkE])
                simp (maxSteps := 4000000) (disch := first | assumption | omega | (simp only [go_sem, *]; done) | (simp only [go_sem, *]; omega)) only [postA, postO, resV1, fzAll, go_sem, hq, Int.reduceToNat, Nat.reduceBEq, Nat.reduceEqDiff, Nat.reduceAdd, Nat.reduceMul, Nat.reduceLeDiff, Nat.reduceLT, Nat.reduceSub, ↓reduceIte, reduceCtorEq]
                all_goals ((rw [(coreU_n hs).1, (coreU_n hs).2.2]; exact .tup (.cons (.nsl 1) (.cons (.refl _) .nil))))
            · skip
              (first | (exfalso; simp_all; done) | skip)
              all_goals
                refine tr_skip ?_
                (try simp only [thenE, inBlkE])
                refine hK13 _ ?_
                refine tr_seq fun K16 hK16 => ?_
                refine tr_region [2, 3] rfl rfl fun K hK => ?_
                refine evR_p ?_
                refine evR_c (hc := (k17 t ht4)) (k := ?_)
                iterate 2 refine evR_p ?_
                refine evR_e hK ?_; clear hK K
                refine hK16 _ ?_
                refine tr_ret ?_
                (try simp only [thenE, inBlkE])
                simp (maxSteps := 4000000) (disch := first | assumption | omega | (simp only [go_sem, *]; done) | (simp only [go_sem, *]; omega)) only [postA, postO, resV1, fzAll, go_sem, hq, Int.reduceToNat, Nat.reduceBEq, Nat.reduceEqDiff, Nat.reduceAdd, Nat.reduceMul, Nat.reduceLeDiff, Nat.reduceLT, Nat.reduceSub, ↓reduceIte, reduceCtorEq]
                all_goals ((rw [(coreU_n hs).1, (coreU_n hs).2.2]; exact .tup (.cons (.nsl 1) (.cons (.refl _) .nil))))

set_option maxHeartbeats 4000000 in
theorem k15 (p : Pg) (hr : p.rows.length ≤ maxLen) (hg : p.gain.length ≤ maxLen) (hc : ∀ r ∈ p.rows, r.coef.length ≤ maxLen) (hs : smallB p = true) : CallsA Tryd.prog 15 [.agg (encPg p)] (.tup [.sl 1 (encI (repU p)), .int .i64 (errU p)]) := by
  obtain ⟨hn, hv⟩ := smallB_spec hs
  have hpn := pow_4096 hn
  have hpp := Nat.two_pow_pos p.rows.length
  have hn5 : shlW .i64 1 (p.rows.length : Nat) = ((2 ^ p.rows.length : Nat) : Int) := shl_pow hn
  have hbr := brA_len hv
  have hbx : ∀ x ∈ brA p, 0 ≤ x ∧ x < 4096 := brL_range hn
  obtain ⟨cu1, cu2, cu3⟩ := coreU_s hs
  have hw : IntKind.i64.wrap (((2 ^ p.rows.length : Nat) : Int) - 1) = ((2 ^ p.rows.length - 1 : Nat) : Int) := by rw [w64 (by omega)]; omega
  have hq := And.intro hs (And.intro hn5 (hw))
  refine callsA_of_trL Tryd.func15 rfl (Nat.le_of_ble_eq_true rfl) ?_
  simp only [Tryd.results15, envOf, Nat.reduceAdd]
  refine tr_seq fun K1 hK1 => ?_
  refine tr_region [1] rfl rfl fun K hK => ?_
  iterate 3 refine evR_p ?_
  refine evR_e hK ?_; clear hK K
  refine hK1 _ ?_
  refine tr_seq fun K2 hK2 => ?_
  refine tr_seq fun K3 hK3 => ?_
  refine tr_region [1, 10] rfl rfl fun K hK => ?_
  refine evR_p ?_
  refine evR_c (hc := (k36 p hr hg hc)) (k := ?_)
  refine evR_p ?_
  refine evR_e hK ?_; clear hK K
  refine hK3 _ ?_
  refine tr_condB (fun ht1 => ?_) (fun ht1 => ?_)
  · skip
    (first | (exfalso; simp_all; done) | skip)
    all_goals
      refine tr_seq fun K4 hK4 => ?_
      refine tr_region [2, 3] rfl rfl fun K hK => ?_
      iterate 2 refine evR_p ?_
      refine evR_e hK ?_; clear hK K
      refine hK4 _ ?_
      refine tr_ret ?_
      (try simp only [thenE, inBlkE])
      simp (maxSteps := 4000000) (disch := first | assumption | omega | (simp only [go_sem, *]; done) | (simp only [go_sem, *]; omega)) only [postA, postO, resV1, fzAll, go_sem, hq, Int.reduceToNat, Nat.reduceBEq, Nat.reduceEqDiff, Nat.reduceAdd, Nat.reduceMul, Nat.reduceLeDiff, Nat.reduceLT, Nat.reduceSub, ↓reduceIte, reduceCtorEq]
      all_goals (first | (rw [rfR_rep hv hn, cu2, cu3]; exact .refl _) | (rw [cu2, cu3]; exact .refl _))
  · skip
    (first | (exfalso; simp_all; done) | skip)
    all_goals
      refine tr_skip ?_
      (try simp only [thenE, inBlkE])
      refine hK2 _ ?_
      refine tr_seq fun K5 hK5 => ?_
      refine tr_region [1, 4] rfl rfl fun K hK => ?_
      refine evR_p ?_
      refine evR_c (hc := (k37 p hr hg hc hv hn)) (k := ?_)
      refine evR_p ?_
      refine evR_e hK ?_; clear hK K
      refine hK5 _ ?_
      refine tr_seq fun K6 hK6 => ?_
      refine tr_region [4, 5] rfl rfl fun K hK => ?_
      iterate 6 refine evR_p ?_
      refine evR_e hK ?_; clear hK K
      refine hK6 _ ?_
      refine tr_seq fun K7 hK7 => ?_
      refine tr_region [4, 5, 6] rfl rfl fun K hK => ?_
      iterate 2 refine evR_p ?_
      refine evR_e hK ?_; clear hK K
      refine hK7 _ ?_
      refine tr_seq fun K8 hK8 => ?_
      refine tr_seq fun K9 hK9 => ?_
      refine tr_region [4, 5, 6, 7] rfl rfl fun K hK => ?_
      refine evR_p ?_
      refine evR_e hK ?_; clear hK K
      refine hK9 _ ?_
      refine tr_block ?_
      -- loop 1: live [4, 5, 6, 7]
      refine tr_loopW (fun m σ => ∃ s : Nat, s + m = 2 ^ p.rows.length ∧ σ = ⟨[(4, .sl 1 (encI (brA p))), (5, .int .i64 ((2 ^ p.rows.length - 1 : Nat) : Int)), (6, .int .i64 (rfR (repS p) (2 ^ p.rows.length - 1) s : Nat)), (7, .int .i64 (s : Nat))], [(0, .cells (encPg p))], 1⟩) (2 ^ p.rows.length) ?_ ?_
      · exact ⟨_, Wk.refl _, 0, by omega, rfl⟩
      · rintro m σ ⟨s, hs2, rfl⟩ KL1 hKL1
        have hrl := rfR_lt (q := repS p) (show 2 ^ p.rows.length - 1 < 2 ^ p.rows.length by omega) (k := s) (by omega)
        refine tr_seq fun K10 hK10 => ?_
        refine tr_seq fun K11 hK11 => ?_
        refine tr_region [4, 5, 6, 7, 21] rfl rfl fun K hK => ?_
        iterate 3 refine evR_p ?_
        refine evR_e hK ?_; clear hK K
        refine hK11 _ ?_
        refine tr_condB (fun ht2 => ?_) (fun ht2 => ?_)
        · skip
          (first | (exfalso; simp_all; done) | skip)
          all_goals
            have hsl : s < 2 ^ p.rows.length := by omega
            have hws : IntKind.i64.wrap (((2 ^ p.rows.length - 1 : Nat) : Int) - (s : Int)) = ((2 ^ p.rows.length - 1 - s : Nat) : Int) := by rw [w64 (by omega)]; omega
            have hrc := rep_conf hsl
            replace hq := And.intro hq (And.intro hsl (hws))
            refine tr_skip ?_
            (try simp only [thenE, inBlkE])
            refine hK10 _ ?_
            refine tr_seq fun K12 hK12 => ?_
            refine tr_block ?_
            refine tr_seq fun K13 hK13 => ?_
            refine tr_region [4, 5, 6, 7, 34] rfl rfl fun K hK => ?_
            iterate 4 refine evR_p ?_
            refine evR_c (hc := (cfR_A hv hn (show 2 ^ p.rows.length - 1 - s < 2 ^ p.rows.length by omega) ▸ k38 (brA p) (2 ^ p.rows.length - 1 - s) hbr hbx (by omega))) (k := ?_)
            iterate 2 refine evR_p ?_
            iterate 2 refine evR_g ?_
            refine evR_gc (hc := (k39 s (rfR (repS p) (2 ^ p.rows.length - 1) s) (by omega) (by omega))) (k := ?_)
            refine evR_p ?_
            refine evR_e hK ?_; clear hK K
            refine hK13 _ ?_
            refine tr_condB (fun ht3 => ?_) (fun ht3 => ?_)
            · skip
              (first | (exfalso; simp_all; done) | skip)
              all_goals
                refine tr_region [4, 5, 6, 7] rfl rfl fun K hK => ?_
                iterate 2 refine evR_p ?_
                refine evR_e hK ?_; clear hK K
                refine hK12 _ ?_
                refine tr_region [4, 5, 6, 7] rfl rfl fun K hK => ?_
                iterate 3 refine evR_p ?_
                refine evR_e hK ?_; clear hK K
                refine hKL1 _ ?_
                first
                  | exact ⟨m - 1, _, by omega, Wk.refl _, s + 1, by omega, by rw [w64 (x := (s : Int) + 1) (by omega), rfR_t ⟨by rw [hrc, ht3.1]; rfl, ht3.2⟩]; rfl⟩
                  | exact ⟨m - 1, _, by omega, Wk.refl _, s + 1, by omega, by rw [w64 (x := (s : Int) + 1) (by omega), rfR_f (rfR_c hrc ht3)]; rfl⟩
            · skip
              (first | (exfalso; simp_all; done) | skip)
              all_goals
                refine tr_skip ?_
                (try simp only [thenE, inBlkE])
                refine hK12 _ ?_
                refine tr_region [4, 5, 6, 7] rfl rfl fun K hK => ?_
                iterate 3 refine evR_p ?_
                refine evR_e hK ?_; clear hK K
                refine hKL1 _ ?_
                first
                  | exact ⟨m - 1, _, by omega, Wk.refl _, s + 1, by omega, by rw [w64 (x := (s : Int) + 1) (by omega), rfR_t ⟨by rw [hrc, ht3.1]; rfl, ht3.2⟩]; rfl⟩
                  | exact ⟨m - 1, _, by omega, Wk.refl _, s + 1, by omega, by rw [w64 (x := (s : Int) + 1) (by omega), rfR_f (rfR_c hrc ht3)]; rfl⟩
        · skip
          (first | (exfalso; simp_all; done) | skip)
          all_goals
            have hsl : s = 2 ^ p.rows.length := by omega
            subst hsl
            refine tr_exit ?_
            simp only [thenE, inBlkE, Nat.reduceEqDiff, ↓reduceIte]
            refine hK8 _ ?_
            refine tr_seq fun K14 hK14 => ?_
            refine tr_region [2, 3] rfl rfl fun K hK => ?_
            refine evR_p ?_
            refine evR_c (hc := (k17 (rfR (repS p) (2 ^ p.rows.length - 1) (2 ^ p.rows.length)) (by omega))) (k := ?_)
            iterate 2 refine evR_p ?_
            refine evR_e hK ?_; clear hK K
            refine hK14 _ ?_
            refine tr_ret ?_
            (try simp only [thenE, inBlkE])
            simp (maxSteps := 4000000) (disch := first | assumption | omega | (simp only [go_sem, *]; done) | (simp only [go_sem, *]; omega)) only [postA, postO, resV1, fzAll, go_sem, hq, Int.reduceToNat, Nat.reduceBEq, Nat.reduceEqDiff, Nat.reduceAdd, Nat.reduceMul, Nat.reduceLeDiff, Nat.reduceLT, Nat.reduceSub, ↓reduceIte, reduceCtorEq]
            all_goals (first | (rw [rfR_rep hv hn, cu2, cu3]; exact .refl _) | (rw [cu2, cu3]; exact .refl _))

set_option maxHeartbeats 4000000 in
theorem k15n (p : Pg) (hr : p.rows.length ≤ maxLen) (hg : p.gain.length ≤ maxLen) (hc : ∀ r ∈ p.rows, r.coef.length ≤ maxLen) (hs : smallB p = false) : CallsA Tryd.prog 15 [.agg (encPg p)] (.tup [.sl 1 (encI (repU p)), .int .i64 (errU p)]) := by
  have hq := hs
  refine callsA_of_trL Tryd.func15 rfl (Nat.le_of_ble_eq_true rfl) ?_
  simp only [Tryd.results15, envOf, Nat.reduceAdd]
  refine tr_seq fun K1 hK1 => ?_
  refine tr_region [1] rfl rfl fun K hK => ?_
  iterate 3 refine evR_p ?_
  refine evR_e hK ?_; clear hK K
  refine hK1 _ ?_
  refine tr_seq fun K2 hK2 => ?_
  refine tr_seq fun K3 hK3 => ?_
  refine tr_region [1, 10] rfl rfl fun K hK => ?_
  refine evR_p ?_
  refine evR_c (hc := (k36 p hr hg hc)) (k := ?_)
  refine evR_p ?_
  refine evR_e hK ?_; clear hK K
  refine hK3 _ ?_
  refine tr_condB (fun ht1 => ?_) (fun ht1 => ?_)
  · skip
    (first | (exfalso; simp_all; done) | skip)
    all_goals
      refine tr_seq fun K4 hK4 => ?_
      refine tr_region [2, 3] rfl rfl fun K hK => ?_
      iterate 2 refine evR_p ?_
      refine evR_e hK ?_; clear hK K
      refine hK4 _ ?_
      refine tr_ret ?_
      (try simp only [thenE, inBlkE])
      simp (maxSteps := 4000000) (disch := first | assumption | omega | (simp only [go_sem, *]; done) | (simp only [go_sem, *]; omega)) only [postA, postO, resV1, fzAll, go_sem, hq, Int.reduceToNat, Nat.reduceBEq, Nat.reduceEqDiff, Nat.reduceAdd, Nat.reduceMul, Nat.reduceLeDiff, Nat.reduceLT, Nat.reduceSub, ↓reduceIte, reduceCtorEq]
      all_goals ((rw [(coreU_n hs).2.1, (coreU_n hs).2.2]; exact .tup (.cons (.nsl 1) (.cons (.refl _) .nil))))
  · skip
    (first | (exfalso; simp_all; done) | skip)
    all_goals
      refine tr_skip ?_
      (try simp only [thenE, inBlkE])
      refine hK2 _ ?_
      refine tr_seq fun K5 hK5 => ?_
      refine tr_region [1, 4] rfl rfl fun K hK => ?_
      refine evR_p ?_
      refine evR_c (hc := (k37 p hr hg hc hv hn)) (k := ?_)
      refine evR_p ?_
      refine evR_e hK ?_; clear hK K
      refine hK5 _ ?_
      refine tr_seq fun K6 hK6 => ?_
      refine tr_region [4, 5] rfl rfl fun K hK => ?_
      iterate 6 refine evR_p ?_
      refine evR_e hK ?_; clear hK K
      refine hK6 _ ?_
      refine tr_seq fun K7 hK7 => ?_
      refine tr_region [4, 5, 6] rfl rfl fun K hK => ?_
      iterate 2 refine evR_p ?_
      refine evR_e hK ?_; clear hK K
      refine hK7 _ ?_
      refine tr_seq fun K8 hK8 => ?_
      refine tr_seq fun K9 hK9 => ?_
      refine tr_region [4, 5, 6, 7] rfl rfl fun K hK => ?_
      refine evR_p ?_
      refine evR_e hK ?_; clear hK K
      refine hK9 _ ?_
      refine tr_block ?_
      -- loop 1: live [4, 5, 6, 7]
      refine tr_loopW (fun m σ => ∃ s : Nat, s + m = 2 ^ p.rows.length ∧ σ = ⟨[(4, .sl 1 (encI (brA p))), (5, .int .i64 ((2 ^ p.rows.length - 1 : Nat) : Int)), (6, .int .i64 (rfR (repS p) (2 ^ p.rows.length - 1) s : Nat)), (7, .int .i64 (s : Nat))], [(0, .cells (encPg p))], 1⟩) (2 ^ p.rows.length) ?_ ?_
      · exact ⟨_, Wk.refl _, 0, by omega, rfl⟩
      · rintro m σ ⟨s, hs2, rfl⟩ KL1 hKL1
        have hrl := rfR_lt (q := repS p) (show 2 ^ p.rows.length - 1 < 2 ^ p.rows.length by omega) (k := s) (by omega)
        refine tr_seq fun K10 hK10 => ?_
        refine tr_seq fun K11 hK11 => ?_
        refine tr_region [4, 5, 6, 7, 21] rfl rfl fun K hK => ?_
        iterate 3 refine evR_p ?_
        refine evR_e hK ?_; clear hK K
        refine hK11 _ ?_
        refine tr_condB (fun ht2 => ?_) (fun ht2 => ?_)
        · skip
          (first | (exfalso; simp_all; done) | skip)
          all_goals
            have hsl : s < 2 ^ p.rows.length := by omega
            have hws : IntKind.i64.wrap (((2 ^ p.rows.length - 1 : Nat) : Int) - (s : Int)) = ((2 ^ p.rows.length - 1 - s : Nat) : Int) := by rw [w64 (by omega)]; omega
            have hrc := rep_conf hsl
            replace hq := And.intro hq (And.intro hsl (hws))
            refine tr_skip ?_
            (try simp only [thenE, inBlkE])
            refine hK10 _ ?_
            refine tr_seq fun K12 hK12 => ?_
            refine tr_block ?_
            refine tr_seq fun K13 hK13 => ?_
            refine tr_region [4, 5, 6, 7, 34] rfl rfl fun K hK => ?_
            iterate 4 refine evR_p ?_
            refine evR_c (hc := (cfR_A hv hn (show 2 ^ p.rows.length - 1 - s < 2 ^ p.rows.length by omega) ▸ k38 (brA p) (2 ^ p.rows.length - 1 - s) hbr hbx (by omega))) (k := ?_)
            iterate 2 refine evR_p ?_
            iterate 2 refine evR_g ?_
            refine evR_gc (hc := (k39 s (rfR (repS p) (2 ^ p.rows.length - 1) s) (by omega) (by omega))) (k := ?_)
            refine evR_p ?_
            refine evR_e hK ?_; clear hK K
            refine hK13 _ ?_
            refine tr_condB (fun ht3 => ?_) (fun ht3 => ?_)
            · skip
              (first | (exfalso; simp_all; done) | skip)
              all_goals
                refine tr_region [4, 5, 6, 7] rfl rfl fun K hK => ?_
                iterate 2 refine evR_p ?_
                refine evR_e hK ?_; clear hK K
                refine hK12 _ ?_
                refine tr_region [4, 5, 6, 7] rfl rfl fun K hK => ?_
                iterate 3 refine evR_p ?_
                refine evR_e hK ?_; clear hK K
                refine hKL1 _ ?_
                first
                  | exact ⟨m - 1, _, by omega, Wk.refl _, s + 1, by omega, by rw [w64 (x := (s : Int) + 1) (by omega), rfR_t ⟨by rw [hrc, ht3.1]; rfl, ht3.2⟩]; rfl⟩
                  | exact ⟨m - 1, _, by omega, Wk.refl _, s + 1, by omega, by rw [w64 (x := (s : Int) + 1) (by omega), rfR_f (rfR_c hrc ht3)]; rfl⟩
            · skip
              (first | (exfalso; simp_all; done) | skip)
              all_goals
                refine tr_skip ?_
                (try simp only [thenE, inBlkE])
                refine hK12 _ ?_
                refine tr_region [4, 5, 6, 7] rfl rfl fun K hK => ?_
                iterate 3 refine evR_p ?_
                refine evR_e hK ?_; clear hK K
                refine hKL1 _ ?_
                first
                  | exact ⟨m - 1, _, by omega, Wk.refl _, s + 1, by omega, by rw [w64 (x := (s : Int) + 1) (by omega), rfR_t ⟨by rw [hrc, ht3.1]; rfl, ht3.2⟩]; rfl⟩
                  | exact ⟨m - 1, _, by omega, Wk.refl _, s + 1, by omega, by rw [w64 (x := (s : Int) + 1) (by omega), rfR_f (rfR_c hrc ht3)]; rfl⟩
        · skip
          (first | (exfalso; simp_all; done) | skip)
          all_goals
            have hsl : s = 2 ^ p.rows.length := by omega
            subst hsl
            refine tr_exit ?_
            simp only [thenE, inBlkE, Nat.reduceEqDiff, ↓reduceIte]
            refine hK8 _ ?_
            refine tr_seq fun K14 hK14 => ?_
            refine tr_region [2, 3] rfl rfl fun K hK => ?_
            refine evR_p ?_
            refine evR_c (hc := (k17 (rfR (repS p) (2 ^ p.rows.length - 1) (2 ^ p.rows.length)) (by omega))) (k := ?_)
            iterate 2 refine evR_p ?_
            refine evR_e hK ?_; clear hK K
            refine hK14 _ ?_
            refine tr_ret ?_
            (try simp only [thenE, inBlkE])
            simp (maxSteps := 4000000) (disch := first | assumption | omega | (simp only [go_sem, *]; done) | (simp only [go_sem, *]; omega)) only [postA, postO, resV1, fzAll, go_sem, hq, Int.reduceToNat, Nat.reduceBEq, Nat.reduceEqDiff, Nat.reduceAdd, Nat.reduceMul, Nat.reduceLeDiff, Nat.reduceLT, Nat.reduceSub, ↓reduceIte, reduceCtorEq]
            all_goals ((rw [(coreU_n hs).2.1, (coreU_n hs).2.2]; exact .tup (.cons (.nsl 1) (.cons (.refl _) .nil))))
theorem k13a (p : Pg) (hr : p.rows.length ≤ maxLen) (hg : p.gain.length ≤ maxLen) (hc : ∀ r ∈ p.rows, r.coef.length ≤ maxLen) : CallsA Tryd.prog 13 [.agg (encPg p)] (.tup [.sl 1 (encI (coreU p)), .int .i64 (errU p)]) := by
  cases h : smallB p with
  | true => exact k13 p hr hg hc h
  | false => exact k13n p hr hg hc h
theorem k15a (p : Pg) (hr : p.rows.length ≤ maxLen) (hg : p.gain.length ≤ maxLen) (hc : ∀ r ∈ p.rows, r.coef.length ≤ maxLen) : CallsA Tryd.prog 15 [.agg (encPg p)] (.tup [.sl 1 (encI (repU p)), .int .i64 (errU p)]) := by
  cases h : smallB p with
  | true => exact k15 p hr hg hc h
  | false => exact k15n p hr hg hc h

end Go.Proofs.YtgmgifmfhpoglaaDoor


namespace Go.Proofs.YtgmgifmfhpoglaaDoor
open Go.RowKit
set_option linter.unusedVariables false
set_option linter.unusedSimpArgs false
set_option maxRecDepth 100000
attribute [local go_sem] Nat.zero_add Nat.add_zero Nat.mul_one eq_self ne_eq not_true_eq_false not_false_eq_true decide_true decide_false decide_not Bool.false_eq_true List.filter_cons List.filter_nil true_and and_true beq_false beq_true Bool.not_true Bool.not_false Bool.and_true Bool.true_and Option.getD_some Option.getD_none imp_self implies_true Int.toNat_natCast List.cons_append List.nil_append List.map_cons List.map_nil List.length_cons List.length_nil List.getD_cons_zero List.getD_cons_succ List.drop_zero List.drop_succ_cons List.take_succ_cons List.take_zero
attribute [local go_sem] isE isO stpO notIn St.bare evO evDO isEff stp St.get St.slot St.put List.lookup un unL ofVal gof nth pickV pkB_false pkB_true binV unV loadV idxV fldV partV buildV fillV lenV sliV appV appR rowsV winV V.parts V.okp V.sc Mem.look_cons Mem.look_nil V.cl V.clL AObj.clo fzAll exps St.fz Mem.fz V.fz V.fzL AObj.fz Option.isSome_some Option.isSome_none Bool.or_true Bool.true_or Bool.or_false Bool.false_or false_and and_false false_or or_false arT_102 arT_103 arT_22 arT_23 arT_26 arT_27 arT_31 arT_38 arT_45 arT_55 arT_85 arT_86 arT_9 boolT_100 boolT_23 boolT_3 boolT_32 boolT_4 boolT_98 flatT_100 flatT_23 flatT_3 flatT_32 flatT_4 flatT_98 intT_100 intT_3 intT_5 intT_81 intT_83 intT_98 lay_22 lay_23 lay_25 lay_27 lay_3 lay_37 lay_4 lay_45 lay_47 lay_5 lay_54 lay_61 lay_66 lay_82 lay_88 okF_10 okF_11 okF_12 okF_13 okF_14 okF_15 okF_16 okF_17 okF_18 okF_19 okF_20 okF_21 okF_22 okF_23 okF_24 okF_25 okF_26 okF_27 okF_28 okF_29 okF_3 okF_30 okF_31 okF_32 okF_33 okF_34 okF_35 okF_36 okF_37 okF_38 okF_39 okF_4 okF_40 okF_41 okF_42 okF_43 okF_44 okF_45 okF_46 okF_47 okF_48 okF_49 okF_5 okF_50 okF_51 okF_52 okF_53 okF_54 okF_55 okF_56 okF_57 okF_58 okF_59 okF_6 okF_60 okF_61 okF_62 okF_63 okF_64 okF_65 okF_66 okF_67 okF_68 okF_69 okF_7 okF_70 okF_71 okF_72 okF_73 okF_74 okF_75 okF_76 okF_77 okF_78 okF_79 okF_8 okF_80 okF_81 okF_82 okF_83 okF_84 okF_85 okF_86 okF_87 okF_88 okF_89 okF_9 plT_25 plT_47 plT_54 plT_93 plT_96 slT_102 slT_103 slT_22 slT_23 slT_26 slT_27 slT_31 slT_38 slT_45 slT_55 slT_85 slT_86 slT_94 stT_25_0 stT_25_1 stT_25_2 stT_47_0 stT_47_2 stT_47_3 stT_54_4 stT_54_5 stT_96_1 stT_96_2 strT_9 zeroT_23 zeroT_25 zeroT_3 zeroT_37 zeroT_4 zeroT_45 zeroT_47 zeroT_54 zeroT_55 zeroT_66 zeroT_82 zeroT_85 zeroT_86 zeroT_93 zeroT_96
attribute [local go_sem] List.getElem?_cons_zero List.getElem?_cons_succ List.zip_cons_cons List.zip_nil_left List.zip_nil_right Bool.false_and Bool.and_false List.length_append List.length_set List.length_replicate List.all_cons List.all_nil encI_length encI_getD encR_length encR_getD encRw encPg spl shp AObj.shp rowM isSt isRpS isRd csh AObj.csh forall_const imp_self
attribute [local simp] encI_length encR_length cellsI_length
section
attribute [local go_sem] Bool.not_not
theorem k22 (p : Pg) (hr : p.rows.length ≤ maxLen) (hg : p.gain.length ≤ maxLen) (hc : ∀ r ∈ p.rows, r.coef.length ≤ maxLen) (l : List Int) (hl : l.length ≤ maxLen) : CallsA Tryd.prog 22 [.agg (encPg p), .sl 1 (encI l)] (.bool (cnfB p l)) := by
  have hq : True := trivial
  refine callsA_of_tr Tryd.func22 rfl (Nat.le_of_ble_eq_true rfl) ?_
  simp only [Tryd.results22, envOf, Nat.reduceAdd]
  refine tr_seq fun K1 hK1 => ?_
  refine tr_region [1, 2] rfl rfl fun K hK => ?_
  iterate 2 refine evR_p ?_
  refine evR_e hK ?_; clear hK K
  refine hK1 _ ?_
  refine tr_seq fun K2 hK2 => ?_
  refine tr_seq fun K3 hK3 => ?_
  refine tr_region [1, 2, 13] rfl rfl fun K hK => ?_
  refine evR_p ?_
  refine evR_c (hc := (k36 p hr hg hc)) (k := ?_)
  iterate 2 refine evR_p ?_
  iterate 2 refine evR_g ?_
  refine evR_gch (hc := fun hgt => (k44 p hr hg hc (smallB_spec (hgt)).1 l hl)) (k := ?_)
  refine evR_g ?_
  refine evR_p ?_
  refine evR_e hK ?_; clear hK K
  refine hK3 _ ?_
  refine tr_condB (fun ht1 => ?_) (fun ht1 => ?_)
  · skip
    (first | (have hcb := cnf_bits ht1; obtain ⟨s, hbs, hs2, hcs⟩ := hcb; replace hq := And.intro hq hbs) | skip)
    all_goals
      refine tr_seq fun K4 hK4 => ?_
      refine tr_region [4] rfl rfl fun K hK => ?_
      refine evR_p ?_
      refine evR_e hK ?_; clear hK K
      refine hK4 _ ?_
      refine tr_ret ?_
      (try simp only [thenE, inBlkE])
      simp (maxSteps := 4000000) (disch := first | assumption | omega | (simp only [go_sem, *]; done) | (simp only [go_sem, *]; omega)) only [postA, postO, resV1, fzAll, go_sem, hq, Int.reduceToNat, Nat.reduceBEq, Nat.reduceEqDiff, Nat.reduceAdd, Nat.reduceMul, Nat.reduceLeDiff, Nat.reduceLT, Nat.reduceSub, ↓reduceIte, reduceCtorEq]
      all_goals (first | (rw [hcs]; done) | (rw [cnf_nobits ht1]; done))
  · skip
    (first | (have hcb := cnf_bits ht1; obtain ⟨s, hbs, hs2, hcs⟩ := hcb; replace hq := And.intro hq hbs) | skip)
    all_goals
      refine tr_skip ?_
      (try simp only [thenE, inBlkE])
      refine hK2 _ ?_
      refine tr_seq fun K5 hK5 => ?_
      refine tr_draw [] [4] mixed rfl (by kernel_rfl) rfl fun K hK => ?_
      refine evD_p ?_
      refine evD_c (hc := (k37 p hr hg hc (smallB_spec ht1.1).2 (smallB_spec ht1.1).1)) (k := ?_)
      iterate 2 refine evD_p ?_
      refine evD_c (hc := (k44 p hr hg hc (smallB_spec ht1.1).1 l hl)) (k := ?_)
      refine evD_c (hc := (cfR_A (smallB_spec ht1.1).2 (smallB_spec ht1.1).1 hs2 ▸ k38 (brA p) s (brA_len (smallB_spec ht1.1).2) (brL_range (smallB_spec ht1.1).1) (by have := pow_4096 (smallB_spec ht1.1).1; omega))) (k := ?_)
      refine evD_p ?_
      refine evD_e hK ?_; clear hK K
      refine hK5 _ ?_
      refine tr_ret ?_
      (try simp only [thenE, inBlkE])
      simp (maxSteps := 4000000) (disch := first | assumption | omega | (simp only [go_sem, *]; done) | (simp only [go_sem, *]; omega)) only [postA, postO, resV1, fzAll, go_sem, hq, Int.reduceToNat, Nat.reduceBEq, Nat.reduceEqDiff, Nat.reduceAdd, Nat.reduceMul, Nat.reduceLeDiff, Nat.reduceLT, Nat.reduceSub, ↓reduceIte, reduceCtorEq]
      all_goals (first | (rw [hcs]; done) | (rw [cnf_nobits ht1]; done))
end

end Go.Proofs.YtgmgifmfhpoglaaDoor


namespace Go.Proofs.YtgmgifmfhpoglaaDoor
open Go.RowKit
set_option linter.unusedVariables false
set_option linter.unusedSimpArgs false
set_option maxRecDepth 100000
attribute [local go_sem] Nat.zero_add Nat.add_zero Nat.mul_one eq_self ne_eq not_true_eq_false not_false_eq_true decide_true decide_false decide_not Bool.false_eq_true List.filter_cons List.filter_nil true_and and_true beq_false beq_true Bool.not_true Bool.not_false Bool.and_true Bool.true_and Option.getD_some Option.getD_none imp_self implies_true Int.toNat_natCast List.cons_append List.nil_append List.map_cons List.map_nil List.length_cons List.length_nil List.getD_cons_zero List.getD_cons_succ List.drop_zero List.drop_succ_cons List.take_succ_cons List.take_zero
attribute [local go_sem] isE isO stpO notIn St.bare evO evDO isEff stp St.get St.slot St.put List.lookup un unL ofVal gof nth pickV pkB_false pkB_true binV unV loadV idxV fldV partV buildV fillV lenV sliV appV appR rowsV winV V.parts V.okp V.sc Mem.look_cons Mem.look_nil V.cl V.clL AObj.clo fzAll exps St.fz Mem.fz V.fz V.fzL AObj.fz Option.isSome_some Option.isSome_none Bool.or_true Bool.true_or Bool.or_false Bool.false_or false_and and_false false_or or_false arT_102 arT_103 arT_22 arT_23 arT_26 arT_27 arT_31 arT_38 arT_45 arT_55 arT_85 arT_86 arT_9 boolT_100 boolT_23 boolT_3 boolT_32 boolT_4 boolT_98 flatT_100 flatT_23 flatT_3 flatT_32 flatT_4 flatT_98 intT_100 intT_3 intT_5 intT_81 intT_83 intT_98 lay_22 lay_23 lay_25 lay_27 lay_3 lay_37 lay_4 lay_45 lay_47 lay_5 lay_54 lay_61 lay_66 lay_82 lay_88 okF_10 okF_11 okF_12 okF_13 okF_14 okF_15 okF_16 okF_17 okF_18 okF_19 okF_20 okF_21 okF_22 okF_23 okF_24 okF_25 okF_26 okF_27 okF_28 okF_29 okF_3 okF_30 okF_31 okF_32 okF_33 okF_34 okF_35 okF_36 okF_37 okF_38 okF_39 okF_4 okF_40 okF_41 okF_42 okF_43 okF_44 okF_45 okF_46 okF_47 okF_48 okF_49 okF_5 okF_50 okF_51 okF_52 okF_53 okF_54 okF_55 okF_56 okF_57 okF_58 okF_59 okF_6 okF_60 okF_61 okF_62 okF_63 okF_64 okF_65 okF_66 okF_67 okF_68 okF_69 okF_7 okF_70 okF_71 okF_72 okF_73 okF_74 okF_75 okF_76 okF_77 okF_78 okF_79 okF_8 okF_80 okF_81 okF_82 okF_83 okF_84 okF_85 okF_86 okF_87 okF_88 okF_89 okF_9 plT_25 plT_47 plT_54 plT_93 plT_96 slT_102 slT_103 slT_22 slT_23 slT_26 slT_27 slT_31 slT_38 slT_45 slT_55 slT_85 slT_86 slT_94 stT_25_0 stT_25_1 stT_25_2 stT_47_0 stT_47_2 stT_47_3 stT_54_4 stT_54_5 stT_96_1 stT_96_2 strT_9 zeroT_23 zeroT_25 zeroT_3 zeroT_37 zeroT_4 zeroT_45 zeroT_47 zeroT_54 zeroT_55 zeroT_66 zeroT_82 zeroT_85 zeroT_86 zeroT_93 zeroT_96
attribute [local go_sem] List.getElem?_cons_zero List.getElem?_cons_succ List.zip_cons_cons List.zip_nil_left List.zip_nil_right Bool.false_and Bool.and_false List.length_append List.length_set List.length_replicate List.all_cons List.all_nil encI_length encI_getD encR_length encR_getD encRw encPg spl shp AObj.shp rowM isSt isRpS isRd csh AObj.csh forall_const imp_self
attribute [local simp] encI_length encR_length cellsI_length
set_option maxHeartbeats 4000000 in
theorem k20 (p : Pg) (hr : p.rows.length ≤ maxLen) (hg : p.gain.length ≤ maxLen) (hc : ∀ r ∈ p.rows, r.coef.length ≤ maxLen) (l : List Int) (hl : l.length ≤ maxLen) (hc1 : cnfB p l = true) : CallsA Tryd.prog 20 [.agg (encPg p), .sl 1 (encI l)] (.tup [.sl 1 (encI (shrU p l)), .int .i64 (shrE p l)]) := by
  have hl0 := hl
  unfold maxLen at hl0
  obtain ⟨hs, s, hts, hs2, hrw, hcf⟩ := cnf_spec hc1
  subst hrw
  obtain ⟨hn, hv⟩ := smallB_spec hs
  have hpn := pow_4096 hn
  have hbs := bs_rows hn hs2
  have hbr := brA_len hv
  have hbx : ∀ x ∈ brA p, 0 ≤ x ∧ x < 4096 := brL_range hn
  have hq := And.intro hc1 (hbs)
  refine callsA_of_tr Tryd.func20 rfl (Nat.le_of_ble_eq_true rfl) ?_
  simp only [Tryd.results20, envOf, Nat.reduceAdd]
  refine tr_seq fun K1 hK1 => ?_
  refine tr_region [1, 2] rfl rfl fun K hK => ?_
  iterate 3 refine evR_p ?_
  refine evR_e hK ?_; clear hK K
  refine hK1 _ ?_
  refine tr_seq fun K2 hK2 => ?_
  refine tr_seq fun K3 hK3 => ?_
  refine tr_region [1, 2, 12] rfl rfl fun K hK => ?_
  iterate 2 refine evR_p ?_
  refine evR_c (hc := (k22 p hr hg hc _ hl)) (k := ?_)
  refine evR_p ?_
  refine evR_e hK ?_; clear hK K
  refine hK3 _ ?_
  refine tr_condB (fun ht1 => ?_) (fun ht1 => ?_)
  · skip
    (first | (exfalso; simp_all; done) | skip)
    all_goals
      refine tr_seq fun K4 hK4 => ?_
      refine tr_region [4, 5] rfl rfl fun K hK => ?_
      iterate 2 refine evR_p ?_
      refine evR_e hK ?_; clear hK K
      refine hK4 _ ?_
      refine tr_ret ?_
      (try simp only [thenE, inBlkE])
      simp (maxSteps := 4000000) (disch := first | assumption | omega | (simp only [go_sem, *]; done) | (simp only [go_sem, *]; omega)) only [postA, postO, resV1, fzAll, go_sem, hq, Int.reduceToNat, Nat.reduceBEq, Nat.reduceEqDiff, Nat.reduceAdd, Nat.reduceMul, Nat.reduceLeDiff, Nat.reduceLT, Nat.reduceSub, ↓reduceIte, reduceCtorEq]
      all_goals ((rw [(shrU_s hc1 hts).1, (shrU_s hc1 hts).2]; done))
  · skip
    (first | (exfalso; simp_all; done) | skip)
    all_goals
      refine tr_skip ?_
      (try simp only [thenE, inBlkE])
      refine hK2 _ ?_
      refine tr_seq fun K5 hK5 => ?_
      refine tr_region [1, 2, 6] rfl rfl fun K hK => ?_
      refine evR_p ?_
      refine evR_c (hc := (k37 p hr hg hc hv hn)) (k := ?_)
      refine evR_p ?_
      refine evR_e hK ?_; clear hK K
      refine hK5 _ ?_
      refine tr_seq fun K6 hK6 => ?_
      refine tr_region [1, 6, 7] rfl rfl fun K hK => ?_
      iterate 2 refine evR_p ?_
      refine evR_c (hc := (k44 p hr hg hc hn _ hl)) (k := ?_)
      refine evR_p ?_
      refine evR_e hK ?_; clear hK K
      refine hK6 _ ?_
      refine tr_seq fun K7 hK7 => ?_
      refine tr_seq fun K8 hK8 => ?_
      refine tr_region [1, 6, 7, 8] rfl rfl fun K hK => ?_
      refine evR_p ?_
      refine evR_e hK ?_; clear hK K
      refine hK8 _ ?_
      refine tr_block ?_
      -- loop 1: live [1, 6, 7, 8]
      refine tr_loopW (fun m σ => ∃ k : Nat, k + m = (rowsN s).length ∧ σ = ⟨[(1, .sl 1 (encI (rowsN s))), (6, .sl 1 (encI (brA p))), (7, .int .i64 (shrG p (rowsN s) s k : Nat)), (8, .int .i64 (k : Nat))], [(0, .cells (encPg p))], 1⟩) ((rowsN s).length) ?_ ?_
      · exact ⟨_, Wk.refl _, 0, by omega, rfl⟩
      · rintro m σ ⟨k, hk, rfl⟩ KL1 hKL1
        have hsg := shrG_le p (rowsN s) s k
        have hs4 : shrG p (rowsN s) s k < 4096 := by omega
        have hsl2 : shrG p (rowsN s) s k < 2 ^ p.rows.length := by omega
        refine tr_seq fun K9 hK9 => ?_
        refine tr_seq fun K10 hK10 => ?_
        refine tr_region [1, 6, 7, 8, 21] rfl rfl fun K hK => ?_
        iterate 4 refine evR_p ?_
        refine evR_e hK ?_; clear hK K
        refine hK10 _ ?_
        refine tr_condB (fun ht2 => ?_) (fun ht2 => ?_)
        · skip
          (first | (exfalso; simp_all; done) | skip)
          all_goals
            have hkl : k < (rowsN s).length := by omega
            obtain ⟨r, hlr, hrn, hrb⟩ := rows_at hs2 hn hkl
            have hrt : ((rowsN s).getD k 0).toNat = r := by rw [hlr]; rfl
            have hsx : shlW .i64 1 (r : Nat) = ((2 ^ r : Nat) : Int) := shl_pow (by omega)
            have hp2 := Nat.two_pow_pos r
            have hbt := shrG_bit (p := p) k k (Nat.le_refl _) hkl
            rw [hrt] at hbt
            obtain ⟨hce, hce2⟩ := clr_sub hbt
            have hw2 : IntKind.i64.wrap (((shrG p (rowsN s) s k : Nat) : Int) - ((2 ^ r : Nat) : Int)) = ((clrN (shrG p (rowsN s) s k) r : Nat) : Int) := by rw [w64 (by omega)]; omega
            replace hq := And.intro hq (And.intro hkl (And.intro hlr (And.intro hsx (hw2))))
            refine tr_skip ?_
            (try simp only [thenE, inBlkE])
            refine hK9 _ ?_
            refine tr_seq fun K11 hK11 => ?_
            refine tr_block ?_
            refine tr_seq fun K12 hK12 => ?_
            refine tr_region [1, 6, 7, 8, 32] rfl rfl fun K hK => ?_
            iterate 8 refine evR_p ?_
            refine evR_c (hc := (cfR_A hv hn (clr_lt (r := r) hsl2) ▸ k38 (brA p) (clrN (shrG p (rowsN s) s k) r) hbr hbx (by omega))) (k := ?_)
            refine evR_e hK ?_; clear hK K
            refine hK12 _ ?_
            refine tr_condB (fun ht3 => ?_) (fun ht3 => ?_)
            · skip
              (first | (exfalso; simp_all; done) | skip)
              all_goals
                refine tr_region [1, 6, 7, 8] rfl rfl fun K hK => ?_
                iterate 8 refine evR_p ?_
                refine evR_e hK ?_; clear hK K
                refine hK11 _ ?_
                refine tr_region [1, 6, 7, 8] rfl rfl fun K hK => ?_
                iterate 3 refine evR_p ?_
                refine evR_e hK ?_; clear hK K
                refine hKL1 _ ?_
                first
                  | exact ⟨m - 1, _, by omega, Wk.refl _, k + 1, by omega, by rw [w64 (x := (k : Int) + 1) (by omega), shrG_t (by rw [hrt]; assumption), hrt]; rfl⟩
                  | exact ⟨m - 1, _, by omega, Wk.refl _, k + 1, by omega, by rw [w64 (x := (k : Int) + 1) (by omega), shrG_f (by rw [hrt]; assumption)]; rfl⟩
            · skip
              (first | (exfalso; simp_all; done) | skip)
              all_goals
                refine tr_skip ?_
                (try simp only [thenE, inBlkE])
                refine hK11 _ ?_
                refine tr_region [1, 6, 7, 8] rfl rfl fun K hK => ?_
                iterate 3 refine evR_p ?_
                refine evR_e hK ?_; clear hK K
                refine hKL1 _ ?_
                first
                  | exact ⟨m - 1, _, by omega, Wk.refl _, k + 1, by omega, by rw [w64 (x := (k : Int) + 1) (by omega), shrG_t (by rw [hrt]; assumption), hrt]; rfl⟩
                  | exact ⟨m - 1, _, by omega, Wk.refl _, k + 1, by omega, by rw [w64 (x := (k : Int) + 1) (by omega), shrG_f (by rw [hrt]; assumption)]; rfl⟩
        · skip
          (first | (exfalso; simp_all; done) | skip)
          all_goals
            have hkl : k = (rowsN s).length := by omega
            subst hkl
            refine tr_exit ?_
            simp only [thenE, inBlkE, Nat.reduceEqDiff, ↓reduceIte]
            refine hK7 _ ?_
            refine tr_seq fun K13 hK13 => ?_
            refine tr_region [4, 5] rfl rfl fun K hK => ?_
            refine evR_p ?_
            refine evR_c (hc := (k17 _ hs4)) (k := ?_)
            iterate 2 refine evR_p ?_
            refine evR_e hK ?_; clear hK K
            refine hK13 _ ?_
            refine tr_ret ?_
            (try simp only [thenE, inBlkE])
            simp (maxSteps := 4000000) (disch := first | assumption | omega | (simp only [go_sem, *]; done) | (simp only [go_sem, *]; omega)) only [postA, postO, resV1, fzAll, go_sem, hq, Int.reduceToNat, Nat.reduceBEq, Nat.reduceEqDiff, Nat.reduceAdd, Nat.reduceMul, Nat.reduceLeDiff, Nat.reduceLT, Nat.reduceSub, ↓reduceIte, reduceCtorEq]
            all_goals ((rw [(shrU_s hc1 hts).1, (shrU_s hc1 hts).2]; done))

set_option maxHeartbeats 4000000 in
theorem k20n (p : Pg) (hr : p.rows.length ≤ maxLen) (hg : p.gain.length ≤ maxLen) (hc : ∀ r ∈ p.rows, r.coef.length ≤ maxLen) (l : List Int) (hl : l.length ≤ maxLen) (hc1 : cnfB p l = false) : CallsA Tryd.prog 20 [.agg (encPg p), .sl 1 (encI l)] (.tup [.sl 1 (encI (shrU p l)), .int .i64 (shrE p l)]) := by
  have hl0 := hl
  unfold maxLen at hl0
  have hq := hc1
  refine callsA_of_trL Tryd.func20 rfl (Nat.le_of_ble_eq_true rfl) ?_
  simp only [Tryd.results20, envOf, Nat.reduceAdd]
  refine tr_seq fun K1 hK1 => ?_
  refine tr_region [1, 2] rfl rfl fun K hK => ?_
  iterate 3 refine evR_p ?_
  refine evR_e hK ?_; clear hK K
  refine hK1 _ ?_
  refine tr_seq fun K2 hK2 => ?_
  refine tr_seq fun K3 hK3 => ?_
  refine tr_region [1, 2, 12] rfl rfl fun K hK => ?_
  iterate 2 refine evR_p ?_
  refine evR_c (hc := (k22 p hr hg hc _ hl)) (k := ?_)
  refine evR_p ?_
  refine evR_e hK ?_; clear hK K
  refine hK3 _ ?_
  refine tr_condB (fun ht1 => ?_) (fun ht1 => ?_)
  · skip
    (first | (exfalso; simp_all; done) | skip)
    all_goals
      refine tr_seq fun K4 hK4 => ?_
      refine tr_region [4, 5] rfl rfl fun K hK => ?_
      iterate 2 refine evR_p ?_
      refine evR_e hK ?_; clear hK K
      refine hK4 _ ?_
      refine tr_ret ?_
      (try simp only [thenE, inBlkE])
      simp (maxSteps := 4000000) (disch := first | assumption | omega | (simp only [go_sem, *]; done) | (simp only [go_sem, *]; omega)) only [postA, postO, resV1, fzAll, go_sem, hq, Int.reduceToNat, Nat.reduceBEq, Nat.reduceEqDiff, Nat.reduceAdd, Nat.reduceMul, Nat.reduceLeDiff, Nat.reduceLT, Nat.reduceSub, ↓reduceIte, reduceCtorEq]
      all_goals ((rw [(shrU_n hc1).1, (shrU_n hc1).2]; exact .tup (.cons (.nsl 1) (.cons (.refl _) .nil))))
  · skip
    (first | (exfalso; simp_all; done) | skip)
    all_goals
      refine tr_skip ?_
      (try simp only [thenE, inBlkE])
      refine hK2 _ ?_
      refine tr_seq fun K5 hK5 => ?_
      refine tr_region [1, 2, 6] rfl rfl fun K hK => ?_
      refine evR_p ?_
      refine evR_c (hc := (k37 p hr hg hc hv hn)) (k := ?_)
      refine evR_p ?_
      refine evR_e hK ?_; clear hK K
      refine hK5 _ ?_
      refine tr_seq fun K6 hK6 => ?_
      refine tr_region [1, 6, 7] rfl rfl fun K hK => ?_
      iterate 2 refine evR_p ?_
      refine evR_c (hc := (k44 p hr hg hc hn _ hl)) (k := ?_)
      refine evR_p ?_
      refine evR_e hK ?_; clear hK K
      refine hK6 _ ?_
      refine tr_seq fun K7 hK7 => ?_
      refine tr_seq fun K8 hK8 => ?_
      refine tr_region [1, 6, 7, 8] rfl rfl fun K hK => ?_
      refine evR_p ?_
      refine evR_e hK ?_; clear hK K
      refine hK8 _ ?_
      refine tr_block ?_
      -- loop 1: live [1, 6, 7, 8]
      refine tr_loopW (fun m σ => ∃ k : Nat, k + m = (rowsN s).length ∧ σ = ⟨[(1, .sl 1 (encI (rowsN s))), (6, .sl 1 (encI (brA p))), (7, .int .i64 (shrG p (rowsN s) s k : Nat)), (8, .int .i64 (k : Nat))], [(0, .cells (encPg p))], 1⟩) ((rowsN s).length) ?_ ?_
      · exact ⟨_, Wk.refl _, 0, by omega, rfl⟩
      · rintro m σ ⟨k, hk, rfl⟩ KL1 hKL1
        have hsg := shrG_le p (rowsN s) s k
        have hs4 : shrG p (rowsN s) s k < 4096 := by omega
        have hsl2 : shrG p (rowsN s) s k < 2 ^ p.rows.length := by omega
        refine tr_seq fun K9 hK9 => ?_
        refine tr_seq fun K10 hK10 => ?_
        refine tr_region [1, 6, 7, 8, 21] rfl rfl fun K hK => ?_
        iterate 4 refine evR_p ?_
        refine evR_e hK ?_; clear hK K
        refine hK10 _ ?_
        refine tr_condB (fun ht2 => ?_) (fun ht2 => ?_)
        · skip
          (first | (exfalso; simp_all; done) | skip)
          all_goals
            have hkl : k < (rowsN s).length := by omega
            obtain ⟨r, hlr, hrn, hrb⟩ := rows_at hs2 hn hkl
            have hrt : ((rowsN s).getD k 0).toNat = r := by rw [hlr]; rfl
            have hsx : shlW .i64 1 (r : Nat) = ((2 ^ r : Nat) : Int) := shl_pow (by omega)
            have hp2 := Nat.two_pow_pos r
            have hbt := shrG_bit (p := p) k k (Nat.le_refl _) hkl
            rw [hrt] at hbt
            obtain ⟨hce, hce2⟩ := clr_sub hbt
            have hw2 : IntKind.i64.wrap (((shrG p (rowsN s) s k : Nat) : Int) - ((2 ^ r : Nat) : Int)) = ((clrN (shrG p (rowsN s) s k) r : Nat) : Int) := by rw [w64 (by omega)]; omega
            replace hq := And.intro hq (And.intro hkl (And.intro hlr (And.intro hsx (hw2))))
            refine tr_skip ?_
            (try simp only [thenE, inBlkE])
            refine hK9 _ ?_
            refine tr_seq fun K11 hK11 => ?_
            refine tr_block ?_
            refine tr_seq fun K12 hK12 => ?_
            refine tr_region [1, 6, 7, 8, 32] rfl rfl fun K hK => ?_
            iterate 8 refine evR_p ?_
            refine evR_c (hc := (cfR_A hv hn (clr_lt (r := r) hsl2) ▸ k38 (brA p) (clrN (shrG p (rowsN s) s k) r) hbr hbx (by omega))) (k := ?_)
            refine evR_e hK ?_; clear hK K
            refine hK12 _ ?_
            refine tr_condB (fun ht3 => ?_) (fun ht3 => ?_)
            · skip
              (first | (exfalso; simp_all; done) | skip)
              all_goals
                refine tr_region [1, 6, 7, 8] rfl rfl fun K hK => ?_
                iterate 8 refine evR_p ?_
                refine evR_e hK ?_; clear hK K
                refine hK11 _ ?_
                refine tr_region [1, 6, 7, 8] rfl rfl fun K hK => ?_
                iterate 3 refine evR_p ?_
                refine evR_e hK ?_; clear hK K
                refine hKL1 _ ?_
                first
                  | exact ⟨m - 1, _, by omega, Wk.refl _, k + 1, by omega, by rw [w64 (x := (k : Int) + 1) (by omega), shrG_t (by rw [hrt]; assumption), hrt]; rfl⟩
                  | exact ⟨m - 1, _, by omega, Wk.refl _, k + 1, by omega, by rw [w64 (x := (k : Int) + 1) (by omega), shrG_f (by rw [hrt]; assumption)]; rfl⟩
            · skip
              (first | (exfalso; simp_all; done) | skip)
              all_goals
                refine tr_skip ?_
                (try simp only [thenE, inBlkE])
                refine hK11 _ ?_
                refine tr_region [1, 6, 7, 8] rfl rfl fun K hK => ?_
                iterate 3 refine evR_p ?_
                refine evR_e hK ?_; clear hK K
                refine hKL1 _ ?_
                first
                  | exact ⟨m - 1, _, by omega, Wk.refl _, k + 1, by omega, by rw [w64 (x := (k : Int) + 1) (by omega), shrG_t (by rw [hrt]; assumption), hrt]; rfl⟩
                  | exact ⟨m - 1, _, by omega, Wk.refl _, k + 1, by omega, by rw [w64 (x := (k : Int) + 1) (by omega), shrG_f (by rw [hrt]; assumption)]; rfl⟩
        · skip
          (first | (exfalso; simp_all; done) | skip)
          all_goals
            have hkl : k = (rowsN s).length := by omega
            subst hkl
            refine tr_exit ?_
            simp only [thenE, inBlkE, Nat.reduceEqDiff, ↓reduceIte]
            refine hK7 _ ?_
            refine tr_seq fun K13 hK13 => ?_
            refine tr_region [4, 5] rfl rfl fun K hK => ?_
            refine evR_p ?_
            refine evR_c (hc := (k17 _ hs4)) (k := ?_)
            iterate 2 refine evR_p ?_
            refine evR_e hK ?_; clear hK K
            refine hK13 _ ?_
            refine tr_ret ?_
            (try simp only [thenE, inBlkE])
            simp (maxSteps := 4000000) (disch := first | assumption | omega | (simp only [go_sem, *]; done) | (simp only [go_sem, *]; omega)) only [postA, postO, resV1, fzAll, go_sem, hq, Int.reduceToNat, Nat.reduceBEq, Nat.reduceEqDiff, Nat.reduceAdd, Nat.reduceMul, Nat.reduceLeDiff, Nat.reduceLT, Nat.reduceSub, ↓reduceIte, reduceCtorEq]
            all_goals ((rw [(shrU_n hc1).1, (shrU_n hc1).2]; exact .tup (.cons (.nsl 1) (.cons (.refl _) .nil))))

set_option maxHeartbeats 4000000 in
theorem k24 (p : Pg) (hr : p.rows.length ≤ maxLen) (hg : p.gain.length ≤ maxLen) (hc : ∀ r ∈ p.rows, r.coef.length ≤ maxLen) (l : List Int) (hl : l.length ≤ maxLen) (hc1 : cnfB p l = true) : CallsA Tryd.prog 24 [.agg (encPg p), .sl 1 (encI l)] (.bool (minB p l)) := by
  have hl0 := hl
  unfold maxLen at hl0
  obtain ⟨hs, s, hts, hs2, hrw, hcf⟩ := cnf_spec hc1
  subst hrw
  obtain ⟨hn, hv⟩ := smallB_spec hs
  have hpn := pow_4096 hn
  have hbs := bs_rows hn hs2
  have hbr := brA_len hv
  have hbx : ∀ x ∈ brA p, 0 ≤ x ∧ x < 4096 := brL_range hn
  have hq := And.intro hc1 (hbs)
  refine callsA_of_tr Tryd.func24 rfl (Nat.le_of_ble_eq_true rfl) ?_
  simp only [Tryd.results24, envOf, Nat.reduceAdd]
  refine tr_seq fun K1 hK1 => ?_
  refine tr_region [1, 2] rfl rfl fun K hK => ?_
  iterate 2 refine evR_p ?_
  refine evR_e hK ?_; clear hK K
  refine hK1 _ ?_
  refine tr_seq fun K2 hK2 => ?_
  refine tr_seq fun K3 hK3 => ?_
  refine tr_region [1, 2, 10] rfl rfl fun K hK => ?_
  iterate 2 refine evR_p ?_
  refine evR_c (hc := (k22 p hr hg hc _ hl)) (k := ?_)
  refine evR_p ?_
  refine evR_e hK ?_; clear hK K
  refine hK3 _ ?_
  refine tr_condB (fun ht1 => ?_) (fun ht1 => ?_)
  · skip
    (first | (exfalso; simp_all; done) | skip)
    all_goals
      refine tr_seq fun K4 hK4 => ?_
      refine tr_region [4] rfl rfl fun K hK => ?_
      refine evR_p ?_
      refine evR_e hK ?_; clear hK K
      refine hK4 _ ?_
      refine tr_ret ?_
      (try simp only [thenE, inBlkE])
      simp (maxSteps := 4000000) (disch := first | assumption | omega | (simp only [go_sem, *]; done) | (simp only [go_sem, *]; omega)) only [postA, postO, resV1, fzAll, go_sem, hq, Int.reduceToNat, Nat.reduceBEq, Nat.reduceEqDiff, Nat.reduceAdd, Nat.reduceMul, Nat.reduceLeDiff, Nat.reduceLT, Nat.reduceSub, ↓reduceIte, reduceCtorEq]
      all_goals (first | (rw [min_yes hc1 hts hno]; done) | (rw [min_no hts hkl (by rw [hrt]; assumption)]; done))
  · skip
    (first | (exfalso; simp_all; done) | skip)
    all_goals
      refine tr_skip ?_
      (try simp only [thenE, inBlkE])
      refine hK2 _ ?_
      refine tr_seq fun K5 hK5 => ?_
      refine tr_region [1, 2, 5] rfl rfl fun K hK => ?_
      refine evR_p ?_
      refine evR_c (hc := (k37 p hr hg hc hv hn)) (k := ?_)
      refine evR_p ?_
      refine evR_e hK ?_; clear hK K
      refine hK5 _ ?_
      refine tr_seq fun K6 hK6 => ?_
      refine tr_seq fun K7 hK7 => ?_
      refine tr_region [1, 2, 5, 6] rfl rfl fun K hK => ?_
      refine evR_p ?_
      refine evR_e hK ?_; clear hK K
      refine hK7 _ ?_
      refine tr_block ?_
      -- loop 1: live [1, 2, 5, 6]
      refine tr_loopW (fun m σ => ∃ k : Nat, k + m = (rowsN s).length ∧ (∀ j, j < k → confS p (clrN s ((rowsN s).getD j 0).toNat) = false) ∧ σ = ⟨[(1, .sl 1 (encI (rowsN s))), (2, .ptr 0 0), (5, .sl 1 (encI (brA p))), (6, .int .i64 (k : Nat))], [(0, .cells (encPg p))], 1⟩) ((rowsN s).length) ?_ ?_
      · exact ⟨_, Wk.refl _, 0, by omega, (fun j hj => by omega), rfl⟩
      · rintro m σ ⟨k, hk, hno, rfl⟩ KL1 hKL1
        refine tr_seq fun K8 hK8 => ?_
        refine tr_seq fun K9 hK9 => ?_
        refine tr_region [1, 2, 5, 6, 16] rfl rfl fun K hK => ?_
        iterate 4 refine evR_p ?_
        refine evR_e hK ?_; clear hK K
        refine hK9 _ ?_
        refine tr_condB (fun ht2 => ?_) (fun ht2 => ?_)
        · skip
          (first | (exfalso; simp_all; done) | skip)
          all_goals
            have hkl : k < (rowsN s).length := by omega
            obtain ⟨r, hlr, hrn, hrb⟩ := rows_at hs2 hn hkl
            have hrt : ((rowsN s).getD k 0).toNat = r := by rw [hlr]; rfl
            have hsx : shlW .i64 1 (r : Nat) = ((2 ^ r : Nat) : Int) := shl_pow (by omega)
            have hp2 := Nat.two_pow_pos r
            obtain ⟨hce, hce2⟩ := clr_sub hrb
            have hw2 : IntKind.i64.wrap ((s : Int) - ((2 ^ r : Nat) : Int)) = ((clrN s r : Nat) : Int) := by rw [w64 (by omega)]; omega
            replace hq := And.intro hq (And.intro hkl (And.intro hlr (And.intro hsx (hw2))))
            refine tr_skip ?_
            (try simp only [thenE, inBlkE])
            refine hK8 _ ?_
            refine tr_seq fun K10 hK10 => ?_
            refine tr_block ?_
            refine tr_seq fun K11 hK11 => ?_
            refine tr_draw [] [1, 2, 5, 6, 29] mixed rfl (by kernel_rfl) rfl fun K hK => ?_
            iterate 3 refine evD_p ?_
            refine evD_c (hc := (k44 p hr hg hc hn _ hl)) (k := ?_)
            iterate 6 refine evD_p ?_
            refine evD_c (hc := (cfR_A hv hn (clr_lt (r := r) hs2) ▸ k38 (brA p) (clrN s r) hbr hbx (by have := clrN_le s r; omega))) (k := ?_)
            refine evD_e hK ?_; clear hK K
            refine hK11 _ ?_
            refine tr_condB (fun ht3 => ?_) (fun ht3 => ?_)
            · skip
              (first | (exfalso; simp_all; done) | skip)
              all_goals
                refine tr_seq fun K12 hK12 => ?_
                refine tr_region [4] rfl rfl fun K hK => ?_
                refine evR_p ?_
                refine evR_e hK ?_; clear hK K
                refine hK12 _ ?_
                refine tr_ret ?_
                (try simp only [thenE, inBlkE])
                simp (maxSteps := 4000000) (disch := first | assumption | omega | (simp only [go_sem, *]; done) | (simp only [go_sem, *]; omega)) only [postA, postO, resV1, fzAll, go_sem, hq, Int.reduceToNat, Nat.reduceBEq, Nat.reduceEqDiff, Nat.reduceAdd, Nat.reduceMul, Nat.reduceLeDiff, Nat.reduceLT, Nat.reduceSub, ↓reduceIte, reduceCtorEq]
                all_goals (first | (rw [min_yes hc1 hts hno]; done) | (rw [min_no hts hkl (by rw [hrt]; assumption)]; done))
            · skip
              (first | (exfalso; simp_all; done) | skip)
              all_goals
                refine tr_skip ?_
                (try simp only [thenE, inBlkE])
                refine hK10 _ ?_
                refine tr_region [1, 2, 5, 6] rfl rfl fun K hK => ?_
                iterate 3 refine evR_p ?_
                refine evR_e hK ?_; clear hK K
                refine hKL1 _ ?_
                exact ⟨m - 1, _, by omega, Wk.refl _, k + 1, by omega, (step_false (d := (0 : Int)) (xs := rowsN s) (p := fun x => confS p (clrN s x.toNat)) hno (by show confS p (clrN s ((rowsN s).getD k 0).toNat) = false; rw [hrt]; assumption)), by rw [w64 (x := (k : Int) + 1) (by omega)]; rfl⟩
        · skip
          (first | (exfalso; simp_all; done) | skip)
          all_goals
            have hkl : k = (rowsN s).length := by omega
            subst hkl
            refine tr_exit ?_
            simp only [thenE, inBlkE, Nat.reduceEqDiff, ↓reduceIte]
            refine hK6 _ ?_
            refine tr_seq fun K13 hK13 => ?_
            refine tr_region [4] rfl rfl fun K hK => ?_
            refine evR_p ?_
            refine evR_e hK ?_; clear hK K
            refine hK13 _ ?_
            refine tr_ret ?_
            (try simp only [thenE, inBlkE])
            simp (maxSteps := 4000000) (disch := first | assumption | omega | (simp only [go_sem, *]; done) | (simp only [go_sem, *]; omega)) only [postA, postO, resV1, fzAll, go_sem, hq, Int.reduceToNat, Nat.reduceBEq, Nat.reduceEqDiff, Nat.reduceAdd, Nat.reduceMul, Nat.reduceLeDiff, Nat.reduceLT, Nat.reduceSub, ↓reduceIte, reduceCtorEq]
            all_goals (first | (rw [min_yes hc1 hts hno]; done) | (rw [min_no hts hkl (by rw [hrt]; assumption)]; done))

set_option maxHeartbeats 4000000 in
theorem k24n (p : Pg) (hr : p.rows.length ≤ maxLen) (hg : p.gain.length ≤ maxLen) (hc : ∀ r ∈ p.rows, r.coef.length ≤ maxLen) (l : List Int) (hl : l.length ≤ maxLen) (hc1 : cnfB p l = false) : CallsA Tryd.prog 24 [.agg (encPg p), .sl 1 (encI l)] (.bool (minB p l)) := by
  have hl0 := hl
  unfold maxLen at hl0
  have hq := hc1
  refine callsA_of_tr Tryd.func24 rfl (Nat.le_of_ble_eq_true rfl) ?_
  simp only [Tryd.results24, envOf, Nat.reduceAdd]
  refine tr_seq fun K1 hK1 => ?_
  refine tr_region [1, 2] rfl rfl fun K hK => ?_
  iterate 2 refine evR_p ?_
  refine evR_e hK ?_; clear hK K
  refine hK1 _ ?_
  refine tr_seq fun K2 hK2 => ?_
  refine tr_seq fun K3 hK3 => ?_
  refine tr_region [1, 2, 10] rfl rfl fun K hK => ?_
  iterate 2 refine evR_p ?_
  refine evR_c (hc := (k22 p hr hg hc _ hl)) (k := ?_)
  refine evR_p ?_
  refine evR_e hK ?_; clear hK K
  refine hK3 _ ?_
  refine tr_condB (fun ht1 => ?_) (fun ht1 => ?_)
  · skip
    (first | (exfalso; simp_all; done) | skip)
    all_goals
      refine tr_seq fun K4 hK4 => ?_
      refine tr_region [4] rfl rfl fun K hK => ?_
      refine evR_p ?_
      refine evR_e hK ?_; clear hK K
      refine hK4 _ ?_
      refine tr_ret ?_
      (try simp only [thenE, inBlkE])
      simp (maxSteps := 4000000) (disch := first | assumption | omega | (simp only [go_sem, *]; done) | (simp only [go_sem, *]; omega)) only [postA, postO, resV1, fzAll, go_sem, hq, Int.reduceToNat, Nat.reduceBEq, Nat.reduceEqDiff, Nat.reduceAdd, Nat.reduceMul, Nat.reduceLeDiff, Nat.reduceLT, Nat.reduceSub, ↓reduceIte, reduceCtorEq]
      all_goals ((rw [min_none hc1]; done))
  · skip
    (first | (exfalso; simp_all; done) | skip)
    all_goals
      refine tr_skip ?_
      (try simp only [thenE, inBlkE])
      refine hK2 _ ?_
      refine tr_seq fun K5 hK5 => ?_
      refine tr_region [1, 2, 5] rfl rfl fun K hK => ?_
      refine evR_p ?_
      refine evR_c (hc := (k37 p hr hg hc hv hn)) (k := ?_)
      refine evR_p ?_
      refine evR_e hK ?_; clear hK K
      refine hK5 _ ?_
      refine tr_seq fun K6 hK6 => ?_
      refine tr_seq fun K7 hK7 => ?_
      refine tr_region [1, 2, 5, 6] rfl rfl fun K hK => ?_
      refine evR_p ?_
      refine evR_e hK ?_; clear hK K
      refine hK7 _ ?_
      refine tr_block ?_
      -- loop 1: live [1, 2, 5, 6]
      refine tr_loopW (fun m σ => ∃ k : Nat, k + m = (rowsN s).length ∧ (∀ j, j < k → confS p (clrN s ((rowsN s).getD j 0).toNat) = false) ∧ σ = ⟨[(1, .sl 1 (encI (rowsN s))), (2, .ptr 0 0), (5, .sl 1 (encI (brA p))), (6, .int .i64 (k : Nat))], [(0, .cells (encPg p))], 1⟩) ((rowsN s).length) ?_ ?_
      · exact ⟨_, Wk.refl _, 0, by omega, (fun j hj => by omega), rfl⟩
      · rintro m σ ⟨k, hk, hno, rfl⟩ KL1 hKL1
        refine tr_seq fun K8 hK8 => ?_
        refine tr_seq fun K9 hK9 => ?_
        refine tr_region [1, 2, 5, 6, 16] rfl rfl fun K hK => ?_
        iterate 4 refine evR_p ?_
        refine evR_e hK ?_; clear hK K
        refine hK9 _ ?_
        refine tr_condB (fun ht2 => ?_) (fun ht2 => ?_)
        · skip
          (first | (exfalso; simp_all; done) | skip)
          all_goals
            have hkl : k < (rowsN s).length := by omega
            obtain ⟨r, hlr, hrn, hrb⟩ := rows_at hs2 hn hkl
            have hrt : ((rowsN s).getD k 0).toNat = r := by rw [hlr]; rfl
            have hsx : shlW .i64 1 (r : Nat) = ((2 ^ r : Nat) : Int) := shl_pow (by omega)
            have hp2 := Nat.two_pow_pos r
            obtain ⟨hce, hce2⟩ := clr_sub hrb
            have hw2 : IntKind.i64.wrap ((s : Int) - ((2 ^ r : Nat) : Int)) = ((clrN s r : Nat) : Int) := by rw [w64 (by omega)]; omega
            replace hq := And.intro hq (And.intro hkl (And.intro hlr (And.intro hsx (hw2))))
            refine tr_skip ?_
            (try simp only [thenE, inBlkE])
            refine hK8 _ ?_
            refine tr_seq fun K10 hK10 => ?_
            refine tr_block ?_
            refine tr_seq fun K11 hK11 => ?_
            refine tr_draw [] [1, 2, 5, 6, 29] mixed rfl (by kernel_rfl) rfl fun K hK => ?_
            iterate 3 refine evD_p ?_
            refine evD_c (hc := (k44 p hr hg hc hn _ hl)) (k := ?_)
            iterate 6 refine evD_p ?_
            refine evD_c (hc := (cfR_A hv hn (clr_lt (r := r) hs2) ▸ k38 (brA p) (clrN s r) hbr hbx (by have := clrN_le s r; omega))) (k := ?_)
            refine evD_e hK ?_; clear hK K
            refine hK11 _ ?_
            refine tr_condB (fun ht3 => ?_) (fun ht3 => ?_)
            · skip
              (first | (exfalso; simp_all; done) | skip)
              all_goals
                refine tr_seq fun K12 hK12 => ?_
                refine tr_region [4] rfl rfl fun K hK => ?_
                refine evR_p ?_
                refine evR_e hK ?_; clear hK K
                refine hK12 _ ?_
                refine tr_ret ?_
                (try simp only [thenE, inBlkE])
                simp (maxSteps := 4000000) (disch := first | assumption | omega | (simp only [go_sem, *]; done) | (simp only [go_sem, *]; omega)) only [postA, postO, resV1, fzAll, go_sem, hq, Int.reduceToNat, Nat.reduceBEq, Nat.reduceEqDiff, Nat.reduceAdd, Nat.reduceMul, Nat.reduceLeDiff, Nat.reduceLT, Nat.reduceSub, ↓reduceIte, reduceCtorEq]
                all_goals ((rw [min_none hc1]; done))
            · skip
              (first | (exfalso; simp_all; done) | skip)
              all_goals
                refine tr_skip ?_
                (try simp only [thenE, inBlkE])
                refine hK10 _ ?_
                refine tr_region [1, 2, 5, 6] rfl rfl fun K hK => ?_
                iterate 3 refine evR_p ?_
                refine evR_e hK ?_; clear hK K
                refine hKL1 _ ?_
                exact ⟨m - 1, _, by omega, Wk.refl _, k + 1, by omega, (step_false (d := (0 : Int)) (xs := rowsN s) (p := fun x => confS p (clrN s x.toNat)) hno (by show confS p (clrN s ((rowsN s).getD k 0).toNat) = false; rw [hrt]; assumption)), by rw [w64 (x := (k : Int) + 1) (by omega)]; rfl⟩
        · skip
          (first | (exfalso; simp_all; done) | skip)
          all_goals
            have hkl : k = (rowsN s).length := by omega
            subst hkl
            refine tr_exit ?_
            simp only [thenE, inBlkE, Nat.reduceEqDiff, ↓reduceIte]
            refine hK6 _ ?_
            refine tr_seq fun K13 hK13 => ?_
            refine tr_region [4] rfl rfl fun K hK => ?_
            refine evR_p ?_
            refine evR_e hK ?_; clear hK K
            refine hK13 _ ?_
            refine tr_ret ?_
            (try simp only [thenE, inBlkE])
            simp (maxSteps := 4000000) (disch := first | assumption | omega | (simp only [go_sem, *]; done) | (simp only [go_sem, *]; omega)) only [postA, postO, resV1, fzAll, go_sem, hq, Int.reduceToNat, Nat.reduceBEq, Nat.reduceEqDiff, Nat.reduceAdd, Nat.reduceMul, Nat.reduceLeDiff, Nat.reduceLT, Nat.reduceSub, ↓reduceIte, reduceCtorEq]
            all_goals ((rw [min_none hc1]; done))
theorem k20a (p : Pg) (hr : p.rows.length ≤ maxLen) (hg : p.gain.length ≤ maxLen) (hc : ∀ r ∈ p.rows, r.coef.length ≤ maxLen) (l : List Int) (hl : l.length ≤ maxLen) : CallsA Tryd.prog 20 [.agg (encPg p), .sl 1 (encI l)] (.tup [.sl 1 (encI (shrU p l)), .int .i64 (shrE p l)]) := by
  cases h : cnfB p l with
  | true => exact k20 p hr hg hc l hl h
  | false => exact k20n p hr hg hc l hl h
theorem k24a (p : Pg) (hr : p.rows.length ≤ maxLen) (hg : p.gain.length ≤ maxLen) (hc : ∀ r ∈ p.rows, r.coef.length ≤ maxLen) (l : List Int) (hl : l.length ≤ maxLen) : CallsA Tryd.prog 24 [.agg (encPg p), .sl 1 (encI l)] (.bool (minB p l)) := by
  cases h : cnfB p l with
  | true => exact k24 p hr hg hc l hl h
  | false => exact k24n p hr hg hc l hl h

end Go.Proofs.YtgmgifmfhpoglaaDoor


namespace Go.Proofs.YtgmgifmfhpoglaaDoor
open Go.RowKit
set_option linter.unusedVariables false
set_option linter.unusedSimpArgs false
set_option maxRecDepth 100000
attribute [local go_sem] Nat.zero_add Nat.add_zero Nat.mul_one eq_self ne_eq not_true_eq_false not_false_eq_true decide_true decide_false decide_not Bool.false_eq_true List.filter_cons List.filter_nil true_and and_true beq_false beq_true Bool.not_true Bool.not_false Bool.and_true Bool.true_and Option.getD_some Option.getD_none imp_self implies_true Int.toNat_natCast List.cons_append List.nil_append List.map_cons List.map_nil List.length_cons List.length_nil List.getD_cons_zero List.getD_cons_succ List.drop_zero List.drop_succ_cons List.take_succ_cons List.take_zero
attribute [local go_sem] isE isO stpO notIn St.bare evO evDO isEff stp St.get St.slot St.put List.lookup un unL ofVal gof nth pickV pkB_false pkB_true binV unV loadV idxV fldV partV buildV fillV lenV sliV appV appR rowsV winV V.parts V.okp V.sc Mem.look_cons Mem.look_nil V.cl V.clL AObj.clo fzAll exps St.fz Mem.fz V.fz V.fzL AObj.fz Option.isSome_some Option.isSome_none Bool.or_true Bool.true_or Bool.or_false Bool.false_or false_and and_false false_or or_false arT_102 arT_103 arT_22 arT_23 arT_26 arT_27 arT_31 arT_38 arT_45 arT_55 arT_85 arT_86 arT_9 boolT_100 boolT_23 boolT_3 boolT_32 boolT_4 boolT_98 flatT_100 flatT_23 flatT_3 flatT_32 flatT_4 flatT_98 intT_100 intT_3 intT_5 intT_81 intT_83 intT_98 lay_22 lay_23 lay_25 lay_27 lay_3 lay_37 lay_4 lay_45 lay_47 lay_5 lay_54 lay_61 lay_66 lay_82 lay_88 okF_10 okF_11 okF_12 okF_13 okF_14 okF_15 okF_16 okF_17 okF_18 okF_19 okF_20 okF_21 okF_22 okF_23 okF_24 okF_25 okF_26 okF_27 okF_28 okF_29 okF_3 okF_30 okF_31 okF_32 okF_33 okF_34 okF_35 okF_36 okF_37 okF_38 okF_39 okF_4 okF_40 okF_41 okF_42 okF_43 okF_44 okF_45 okF_46 okF_47 okF_48 okF_49 okF_5 okF_50 okF_51 okF_52 okF_53 okF_54 okF_55 okF_56 okF_57 okF_58 okF_59 okF_6 okF_60 okF_61 okF_62 okF_63 okF_64 okF_65 okF_66 okF_67 okF_68 okF_69 okF_7 okF_70 okF_71 okF_72 okF_73 okF_74 okF_75 okF_76 okF_77 okF_78 okF_79 okF_8 okF_80 okF_81 okF_82 okF_83 okF_84 okF_85 okF_86 okF_87 okF_88 okF_89 okF_9 plT_25 plT_47 plT_54 plT_93 plT_96 slT_102 slT_103 slT_22 slT_23 slT_26 slT_27 slT_31 slT_38 slT_45 slT_55 slT_85 slT_86 slT_94 stT_25_0 stT_25_1 stT_25_2 stT_47_0 stT_47_2 stT_47_3 stT_54_4 stT_54_5 stT_96_1 stT_96_2 strT_9 zeroT_23 zeroT_25 zeroT_3 zeroT_37 zeroT_4 zeroT_45 zeroT_47 zeroT_54 zeroT_55 zeroT_66 zeroT_82 zeroT_85 zeroT_86 zeroT_93 zeroT_96
attribute [local go_sem] List.getElem?_cons_zero List.getElem?_cons_succ List.zip_cons_cons List.zip_nil_left List.zip_nil_right Bool.false_and Bool.and_false List.length_append List.length_set List.length_replicate List.all_cons List.all_nil encI_length encI_getD encR_length encR_getD encRw encPg spl shp AObj.shp rowM isSt isRpS isRd csh AObj.csh forall_const imp_self
attribute [local simp] encI_length encR_length cellsI_length
section
attribute [local go_sem] encR_one encI_take
set_option maxHeartbeats 4000000 in
theorem k10 (p : Pg) (hr : p.rows.length ≤ maxLen) (hg : p.gain.length ≤ maxLen) : CallsA Tryd.prog 10 [.agg (encPg p)] (.agg (encPg (fewC p))) := by
  unfold maxLen at hr hg
  have hmg := minV_range p.gain.length 9 (by omega)
  have htg : p.gain.take (minV (p.gain.length : Int) 9).toNat = p.gain.take 9 := take_min p.gain 9
  have hq := And.intro hmg (htg)
  refine callsA_of_tr Tryd.func10 rfl (Nat.le_of_ble_eq_true rfl) ?_
  simp only [Tryd.results10, envOf, Nat.reduceAdd]
  refine tr_seq fun K1 hK1 => ?_
  refine tr_region [1, 2] rfl rfl fun K hK => ?_
  iterate 2 refine evR_p ?_
  refine evR_e hK ?_; clear hK K
  refine hK1 _ ?_
  refine tr_seq fun K2 hK2 => ?_
  refine tr_fz [.ptr 0 0] (by simp (maxSteps := 4000000) (disch := first | assumption | omega | (simp only [go_sem, *]; done) | (simp only [go_sem, *]; omega)) only [go_sem, hq, Int.reduceToNat, Nat.reduceBEq, Nat.reduceEqDiff, Nat.reduceAdd, Nat.reduceMul, Nat.reduceLeDiff, Nat.reduceLT, Nat.reduceSub, ↓reduceIte, reduceCtorEq]; (try rfl)) ?_
  refine tr_draw [7, 10, 12, 13] [1, 2, 3] mixed rfl (by kernel_rfl) rfl fun K hK => ?_
  iterate 13 refine evD_p ?_
  refine evD_e hK ?_; clear hK K
  refine hK2 _ ?_
  refine tr_seq fun K3 hK3 => ?_
  refine tr_seq fun K4 hK4 => ?_
  refine tr_region [1, 2, 3, 4] rfl rfl fun K hK => ?_
  refine evR_p ?_
  refine evR_e hK ?_; clear hK K
  refine hK4 _ ?_
  refine tr_block ?_
  -- loop 1: live [1, 2, 3, 4]
  refine tr_loopW (fun m σ => ∃ i : Nat, i + m = min p.rows.length 13 ∧ σ = ⟨[(1, .ep [.int .i64 p.vars, .sl 6 (encR p.rows), .sl 1 (encI p.gain)]), (2, .ptr 1 0), (3, .ptr 2 0), (4, .int .i64 (i : Nat))], [(3, .row 54 6 (encR ((p.rows.take i).map (cutR 9)))), (2, .cells [.int .i64 (minV p.vars 8), .own 3, .sl 1 (encI (p.gain.take 9))]), (1, .cells [.int .i64 0, .nsl, .nsl])], 4⟩) (min p.rows.length 13) ?_ ?_
  · exact ⟨_, (Wk.nilown 54 6 2 1 rfl (Nat.le_of_ble_eq_true rfl) rfl), 0, by omega, rfl⟩
  · rintro m σ ⟨i, hi, rfl⟩ KL1 hKL1
    refine tr_seq fun K5 hK5 => ?_
    refine tr_seq fun K6 hK6 => ?_
    refine tr_region [1, 2, 3, 4, 25] rfl rfl fun K hK => ?_
    iterate 6 refine evR_p ?_
    iterate 2 refine evR_g ?_
    refine evR_p ?_
    refine evR_e hK ?_; clear hK K
    refine hK6 _ ?_
    refine tr_condB (fun ht1 => ?_) (fun ht1 => ?_)
    · skip
      have hil : i < p.rows.length := by omega
      have hmc := minV_range (p.rows.getD i rw0).coef.length 9 (by omega)
      have htc : (p.rows.getD i rw0).coef.take (minV ((p.rows.getD i rw0).coef.length : Int) 9).toNat = (p.rows.getD i rw0).coef.take 9 := take_min _ 9
      have hcl : ((p.rows.take i).map (cutR 9)).length = i := by simp; omega
      replace hq := And.intro hq (And.intro hil (And.intro hmc (And.intro htc (hcl))))
      refine tr_skip ?_
      (try simp only [thenE, inBlkE])
      refine hK5 _ ?_
      refine tr_seq fun K7 hK7 => ?_
      refine tr_block ?_
      refine tr_seq fun K8 hK8 => ?_
      refine tr_region [1, 2, 3, 4, 5] rfl rfl fun K hK => ?_
      iterate 7 refine evR_p ?_
      refine evR_e hK ?_; clear hK K
      refine hK8 _ ?_
      refine tr_seq fun K9 hK9 => ?_
      refine tr_region [1, 2, 3, 4, 5] rfl rfl fun K hK => ?_
      iterate 9 refine evR_p ?_
      refine evR_e hK ?_; clear hK K
      refine hK9 _ ?_
      refine tr_region [1, 2, 3, 4] rfl rfl fun K hK => ?_
      iterate 3 refine evR_p ?_
      refine evR_bs ?_
      iterate 3 refine evR_p ?_
      refine evR_e hK ?_; clear hK K
      refine hK7 _ ?_
      refine tr_region [1, 2, 3, 4] rfl rfl fun K hK => ?_
      iterate 3 refine evR_p ?_
      refine evR_e hK ?_; clear hK K
      refine hKL1 _ ?_
      exact ⟨m - 1, _, by omega, (Wk.trans (Wk.ren 5 3 (Nat.le_of_ble_eq_true rfl) (Nat.le_of_ble_eq_true rfl) rfl) (Wk.cut 4 rfl)), i + 1, by omega, by rw [w64 (x := (i : Int) + 1) (by omega), cut_succ 9 hil]; rfl⟩
    · skip
      have hil : i = min p.rows.length 13 := by omega
      subst hil
      refine tr_exit ?_
      simp only [thenE, inBlkE, Nat.reduceEqDiff, ↓reduceIte]
      refine hK3 _ ?_
      refine tr_seq fun K10 hK10 => ?_
      refine tr_region [2] rfl rfl fun K hK => ?_
      iterate 2 refine evR_p ?_
      refine evR_e hK ?_; clear hK K
      refine hK10 _ ?_
      refine tr_ret ?_
      (try simp only [thenE, inBlkE])
      simp (maxSteps := 4000000) (disch := first | assumption | omega | (simp only [go_sem, *]; done) | (simp only [go_sem, *]; omega)) only [postA, postO, resV1, fzAll, go_sem, hq, Int.reduceToNat, Nat.reduceBEq, Nat.reduceEqDiff, Nat.reduceAdd, Nat.reduceMul, Nat.reduceLeDiff, Nat.reduceLT, Nat.reduceSub, ↓reduceIte, reduceCtorEq]
      all_goals ((first | rfl | (rw [few13]; rfl)))
end

end Go.Proofs.YtgmgifmfhpoglaaDoor


namespace Go.Proofs.YtgmgifmfhpoglaaDoor
open Go.RowKit
set_option linter.unusedVariables false
set_option linter.unusedSimpArgs false
set_option maxRecDepth 100000
attribute [local go_sem] Nat.zero_add Nat.add_zero Nat.mul_one eq_self ne_eq not_true_eq_false not_false_eq_true decide_true decide_false decide_not Bool.false_eq_true List.filter_cons List.filter_nil true_and and_true beq_false beq_true Bool.not_true Bool.not_false Bool.and_true Bool.true_and Option.getD_some Option.getD_none imp_self implies_true Int.toNat_natCast List.cons_append List.nil_append List.map_cons List.map_nil List.length_cons List.length_nil List.getD_cons_zero List.getD_cons_succ List.drop_zero List.drop_succ_cons List.take_succ_cons List.take_zero
attribute [local go_sem] isE isO stpO notIn St.bare evO evDO isEff stp St.get St.slot St.put List.lookup un unL ofVal gof nth pickV pkB_false pkB_true binV unV loadV idxV fldV partV buildV fillV lenV sliV appV appR rowsV winV V.parts V.okp V.sc Mem.look_cons Mem.look_nil V.cl V.clL AObj.clo fzAll exps St.fz Mem.fz V.fz V.fzL AObj.fz Option.isSome_some Option.isSome_none Bool.or_true Bool.true_or Bool.or_false Bool.false_or false_and and_false false_or or_false arT_102 arT_103 arT_22 arT_23 arT_26 arT_27 arT_31 arT_38 arT_45 arT_55 arT_85 arT_86 arT_9 boolT_100 boolT_23 boolT_3 boolT_32 boolT_4 boolT_98 flatT_100 flatT_23 flatT_3 flatT_32 flatT_4 flatT_98 intT_100 intT_3 intT_5 intT_81 intT_83 intT_98 lay_22 lay_23 lay_25 lay_27 lay_3 lay_37 lay_4 lay_45 lay_47 lay_5 lay_54 lay_61 lay_66 lay_82 lay_88 okF_10 okF_11 okF_12 okF_13 okF_14 okF_15 okF_16 okF_17 okF_18 okF_19 okF_20 okF_21 okF_22 okF_23 okF_24 okF_25 okF_26 okF_27 okF_28 okF_29 okF_3 okF_30 okF_31 okF_32 okF_33 okF_34 okF_35 okF_36 okF_37 okF_38 okF_39 okF_4 okF_40 okF_41 okF_42 okF_43 okF_44 okF_45 okF_46 okF_47 okF_48 okF_49 okF_5 okF_50 okF_51 okF_52 okF_53 okF_54 okF_55 okF_56 okF_57 okF_58 okF_59 okF_6 okF_60 okF_61 okF_62 okF_63 okF_64 okF_65 okF_66 okF_67 okF_68 okF_69 okF_7 okF_70 okF_71 okF_72 okF_73 okF_74 okF_75 okF_76 okF_77 okF_78 okF_79 okF_8 okF_80 okF_81 okF_82 okF_83 okF_84 okF_85 okF_86 okF_87 okF_88 okF_89 okF_9 plT_25 plT_47 plT_54 plT_93 plT_96 slT_102 slT_103 slT_22 slT_23 slT_26 slT_27 slT_31 slT_38 slT_45 slT_55 slT_85 slT_86 slT_94 stT_25_0 stT_25_1 stT_25_2 stT_47_0 stT_47_2 stT_47_3 stT_54_4 stT_54_5 stT_96_1 stT_96_2 strT_9 zeroT_23 zeroT_25 zeroT_3 zeroT_37 zeroT_4 zeroT_45 zeroT_47 zeroT_54 zeroT_55 zeroT_66 zeroT_82 zeroT_85 zeroT_86 zeroT_93 zeroT_96
attribute [local go_sem] List.getElem?_cons_zero List.getElem?_cons_succ List.zip_cons_cons List.zip_nil_left List.zip_nil_right Bool.false_and Bool.and_false List.length_append List.length_set List.length_replicate List.all_cons List.all_nil encI_length encI_getD encR_length encR_getD encRw encPg spl shp AObj.shp rowM isSt isRpS isRd csh AObj.csh forall_const imp_self
attribute [local simp] encI_length encR_length cellsI_length
section
attribute [local go_sem] cellsI_fzL List.replicate_zero encT_length cellsI_length cellsI_getD cellsI_sc cellsI_cl cellsI_winT cellsI_take encI_take encPs_length encPs_getD encL_length encL_getD
set_option maxHeartbeats 40000000 in
theorem k3 (rw : Pg) (hrw : rw.rows.length ≤ maxLen ∧ rw.gain.length ≤ maxLen) (a : Int) (x : List T3) (g : List Int) (ha : okI a) (hxl : x.length ≤ maxLen) (hx : ∀ t ∈ x, okT t) (hgl : g.length = 8) (hg : ∀ c ∈ g, okI c) (rows : List Int) (hrs : rows.length ≤ maxLen) (bits : Int) (hb : okI bits) : CallsA Tryd.prog 3 [.agg (encPg rw), .int .i64 a, .sl 3 (encT x), .agg (cellsI g), .sl 1 (encI rows), .int .i64 bits] (.bool true) := by
  obtain ⟨M, hM⟩ : ∃ M, madeW a x g = M := ⟨_, rfl⟩
  have hv : validB M = true := hM ▸ made_valid ha hx hg
  have hr8 : M.rows.length ≤ 8 := hM ▸ made_rows a x g
  have hn : M.rows.length ≤ 12 := by omega
  have hc11 := c11 a x g ha hxl hgl
  rw [hM] at hc11
  obtain ⟨ml1, ml2, ml3⟩ := valid_max hv
  obtain ⟨v, hv1, hv2, hv3, hv4⟩ := vars_pow hv
  have hv5 : shlW .i64 1 M.vars = ((2 ^ v : Nat) : Int) := by rw [hv1]; exact hv3
  have hn5 : shlW .i64 1 (M.rows.length : Nat) = ((2 ^ M.rows.length : Nat) : Int) := shl_pow hn
  have hsm := sm_8 hv hr8
  have hpn := pow_4096 hn
  have hcv := coreV_s hsm
  have hrv := repV_s hsm
  have hva : M.vars ≤ 9 := by
    have h1 := (pickW_range a (n := 9) (by omega) (by omega) ha).2
    have h2 : M.vars = pickW a 9 := by rw [← hM]; rfl
    omega
  obtain ⟨PL, hPL⟩ : ∃ PL : List Pg, [fewC rw, M] = PL := ⟨_, rfl⟩
  have hPl2 : PL.length = 2 := by rw [← hPL]; rfl
  have hPok : ∀ i, i < 2 → okC (PL.getD i pg0) := fun i hi => by
    rw [← hPL]
    match i, hi with
    | 0, _ => exact okC_few rw
    | 1, _ => exact okC_made hv hr8 hva
  have hmr := minV_range rows.length 13 (by omega)
  have htr : rows.take (minV (rows.length : Int) 13).toNat = rows.take 13 := take_min rows 13
  unfold maxLen at hrs
  have hq := And.intro hv5 (And.intro hn5 (And.intro hgl (And.intro hmr (And.intro htr (hPl2)))))
  refine callsA_of_tr Tryd.func3 rfl (Nat.le_of_ble_eq_true rfl) ?_
  simp only [Tryd.results3, envOf, Nat.reduceAdd]
  refine tr_seq fun K1 hK1 => ?_
  refine tr_region [1, 2, 4, 5, 6, 9] rfl rfl fun K hK => ?_
  iterate 3 refine evR_p ?_
  refine evR_e hK ?_; clear hK K
  refine hK1 _ ?_
  refine tr_seq fun K2 hK2 => ?_
  refine tr_region [1, 2, 4, 5, 6, 9, 13] rfl rfl fun K hK => ?_
  refine evR_c (hc := k9) (k := ?_)
  refine evR_p ?_
  refine evR_e hK ?_; clear hK K
  refine hK2 _ ?_
  refine tr_seq fun K3 hK3 => ?_
  refine tr_seq fun K4 hK4 => ?_
  refine tr_region [1, 2, 4, 5, 6, 9, 13, 33] rfl rfl fun K hK => ?_
  iterate 2 refine evR_p ?_
  refine evR_e hK ?_; clear hK K
  refine hK4 _ ?_
  refine tr_condB (fun ht1 => ?_) (fun ht1 => ?_)
  · skip
    (first | (exfalso; simp_all; done) | skip)
    all_goals
      refine tr_seq fun K5 hK5 => ?_
      refine tr_region [12] rfl rfl fun K hK => ?_
      refine evR_p ?_
      refine evR_e hK ?_; clear hK K
      refine hK5 _ ?_
      refine tr_ret ?_
      (try simp only [thenE, inBlkE])
      simp (maxSteps := 4000000) (disch := first | assumption | omega | (simp only [go_sem, *]; done) | (simp only [go_sem, *]; omega)) only [postA, postO, resV1, fzAll, go_sem, hq, Int.reduceToNat, Nat.reduceBEq, Nat.reduceEqDiff, Nat.reduceAdd, Nat.reduceMul, Nat.reduceLeDiff, Nat.reduceLT, Nat.reduceSub, ↓reduceIte, reduceCtorEq]
      all_goals (rfl)
  · skip
    (first | (exfalso; simp_all; done) | skip)
    all_goals
      refine tr_skip ?_
      (try simp only [thenE, inBlkE])
      refine hK3 _ ?_
      refine tr_seq fun K6 hK6 => ?_
      refine tr_draw [40] [4, 5, 13, 14] mixed rfl (by kernel_rfl) rfl fun K hK => ?_
      refine evD_p ?_
      refine evD_c (hc := (k10 rw hrw.1 hrw.2)) (k := ?_)
      iterate 3 refine evD_p ?_
      refine evD_c (hc := hc11) (k := ?_)
      refine evD_bs ?_
      refine evD_p ?_
      refine evD_e hK ?_; clear hK K
      refine hK6 _ ?_
      refine tr_seq fun K7 hK7 => ?_
      refine tr_seq fun K8 hK8 => ?_
      refine tr_region [4, 5, 13, 14, 15] rfl rfl fun K hK => ?_
      refine evR_p ?_
      refine evR_e hK ?_; clear hK K
      refine hK8 _ ?_
      refine tr_block ?_
      -- loop 1: live [4, 5, 13, 14, 15]
      refine tr_loopW (fun m σ => ∃ i : Nat, i + m = 2 ∧ σ = ⟨[(4, .sl 1 (encI rows)), (5, .int .i64 bits), (13, .bool true), (14, .sl 3 (encPs PL)), (15, .int .i64 (i : Nat))], [], 0⟩) (2) ?_ ?_
      · exact ⟨_, Wk.cut 0 rfl, 0, by omega, by rw [← hPL]; rfl⟩
      · rintro m σ ⟨i, hi, rfl⟩ KL1 hKL1
        refine tr_seq fun K9 hK9 => ?_
        refine tr_seq fun K10 hK10 => ?_
        refine tr_region [4, 5, 13, 14, 15, 42] rfl rfl fun K hK => ?_
        iterate 2 refine evR_p ?_
        refine evR_e hK ?_; clear hK K
        refine hK10 _ ?_
        refine tr_condB (fun ht2 => ?_) (fun ht2 => ?_)
        · skip
          (first | (exfalso; simp_all; done) | skip)
          all_goals
            have hil : i < 2 := by omega
            have hPb := hPok i hil
            obtain ⟨P, hP⟩ : ∃ P, PL.getD i pg0 = P := ⟨_, rfl⟩
            rw [hP] at hPb
            obtain ⟨p1, p2, p3⟩ := okC_max hPb
            obtain ⟨o1, o2, o3⟩ := id hPb
            have hmn := min12 P.rows.length
            have hsh : shlW .i64 1 ((min P.rows.length 12 : Nat) : Int) = ((2 ^ min P.rows.length 12 : Nat) : Int) := shl_pow (by omega)
            obtain ⟨k, hk, hkl⟩ := pick_pow hb (n := min P.rows.length 12) (by omega)
            have hp12 := pow_4096 (n := min P.rows.length 12) (by omega)
            replace hq := And.intro hq (And.intro hil (And.intro hP (And.intro hmn (And.intro hsh (hk)))))
            refine tr_skip ?_
            (try simp only [thenE, inBlkE])
            refine hK9 _ ?_
            refine tr_seq fun K11 hK11 => ?_
            refine tr_block ?_
            refine tr_seq fun K12 hK12 => ?_
            refine tr_region [4, 5, 13, 14, 15, 16] rfl rfl fun K hK => ?_
            iterate 6 refine evR_p ?_
            refine evR_e hK ?_; clear hK K
            refine hK12 _ ?_
            refine tr_seq fun K13 hK13 => ?_
            refine tr_region [4, 5, 13, 14, 15, 16, 17, 18] rfl rfl fun K hK => ?_
            refine evR_p ?_
            refine evR_c (hc := ((k12a P p1 p2 p3).le (core_le P))) (k := ?_)
            iterate 5 refine evR_p ?_
            refine evR_e hK ?_; clear hK K
            refine hK13 _ ?_
            refine tr_seq fun K14 hK14 => ?_
            refine tr_region [4, 5, 13, 14, 15, 16, 17, 18, 19, 20] rfl rfl fun K hK => ?_
            refine evR_p ?_
            refine evR_c (hc := (k13a P p1 p2 p3)) (k := ?_)
            iterate 5 refine evR_p ?_
            refine evR_e hK ?_; clear hK K
            refine hK14 _ ?_
            refine tr_seq fun K15 hK15 => ?_
            refine tr_region [4, 5, 13, 14, 15, 16, 17, 18, 19, 20, 21, 22] rfl rfl fun K hK => ?_
            refine evR_p ?_
            refine evR_c (hc := ((k14a P p1 p2 p3).le (rep_le P))) (k := ?_)
            iterate 5 refine evR_p ?_
            refine evR_e hK ?_; clear hK K
            refine hK15 _ ?_
            refine tr_seq fun K16 hK16 => ?_
            refine tr_region [4, 5, 13, 14, 15, 16, 17, 18, 19, 20, 21, 22, 23, 24] rfl rfl fun K hK => ?_
            refine evR_p ?_
            refine evR_c (hc := (k15a P p1 p2 p3)) (k := ?_)
            iterate 5 refine evR_p ?_
            refine evR_e hK ?_; clear hK K
            refine hK16 _ ?_
            refine tr_seq fun K17 hK17 => ?_
            refine tr_seq fun K18 hK18 => ?_
            refine tr_region [4, 5, 13, 14, 15, 16, 88] rfl rfl fun K hK => ?_
            iterate 4 refine evR_p ?_
            iterate 3 refine evR_g ?_
            iterate 2 refine evR_p ?_
            iterate 2 refine evR_g ?_
            refine evR_gc (hc := (c19 (coreU P) (coreU P) (coreU_max P).1 (coreU_max P).1)) (k := ?_)
            refine evR_g ?_
            iterate 2 refine evR_p ?_
            iterate 2 refine evR_g ?_
            refine evR_gc (hc := (c19 (repU P) (repU P) (coreU_max P).2 (coreU_max P).2)) (k := ?_)
            refine evR_g ?_
            refine evR_p ?_
            refine evR_e hK ?_; clear hK K
            refine hK18 _ ?_
            refine tr_condB (fun ht3 => ?_) (fun ht3 => ?_)
            · skip
              (first | (exfalso; simp_all; done) | skip)
              all_goals
                refine tr_seq fun K19 hK19 => ?_
                refine tr_region [12] rfl rfl fun K hK => ?_
                refine evR_p ?_
                refine evR_e hK ?_; clear hK K
                refine hK19 _ ?_
                refine tr_ret ?_
                (try simp only [thenE, inBlkE])
                simp (maxSteps := 4000000) (disch := first | assumption | omega | (simp only [go_sem, *]; done) | (simp only [go_sem, *]; omega)) only [postA, postO, resV1, fzAll, go_sem, hq, Int.reduceToNat, Nat.reduceBEq, Nat.reduceEqDiff, Nat.reduceAdd, Nat.reduceMul, Nat.reduceLeDiff, Nat.reduceLT, Nat.reduceSub, ↓reduceIte, reduceCtorEq]
                all_goals (rfl)
            · skip
              (first | (exfalso; simp_all; done) | skip)
              all_goals
                refine tr_skip ?_
                (try simp only [thenE, inBlkE])
                refine hK17 _ ?_
                refine tr_seq fun K20 hK20 => ?_
                refine tr_draw [102] [4, 5, 13, 14, 15, 16, 25] mixed rfl (by kernel_rfl) rfl fun K hK => ?_
                iterate 11 refine evD_p ?_
                refine evD_c (hc := (c12 _ _ (pow_pos_int _))) (k := ?_)
                refine evD_c (hc := (k17 k (Nat.lt_of_lt_of_le hkl hp12))) (k := ?_)
                refine evD_bs ?_
                refine evD_p ?_
                refine evD_e hK ?_; clear hK K
                refine hK20 _ ?_
                refine tr_seq fun K21 hK21 => ?_
                refine tr_region [4, 5, 13, 14, 15, 16, 25, 26] rfl rfl fun K hK => ?_
                refine evR_p ?_
                refine evR_e hK ?_; clear hK K
                refine hK21 _ ?_
                refine tr_block ?_
                -- loop 2: live [4, 5, 13, 14, 15, 16, 25, 26]
                refine tr_loopW (fun m σ => ∃ j : Nat, j + m = 2 ∧ σ = ⟨[(4, .sl 1 (encI rows)), (5, .int .i64 bits), (13, .bool true), (14, .sl 3 (encPs PL)), (15, .int .i64 (i : Nat)), (16, .ptr 0 0), (25, .sl 1 (encL [rows.take 13, rowsN k])), (26, .int .i64 (j : Nat))], [(0, .cells [.int .i64 P.vars, .sl 6 (encR P.rows), .sl 1 (encI P.gain)])], 1⟩) (2) ?_ ?_
                · exact ⟨_, Wk.refl _, 0, by omega, rfl⟩
                · rintro m2 σ ⟨j, hj, rfl⟩ KL2 hKL2
                  refine tr_seq fun K22 hK22 => ?_
                  refine tr_seq fun K23 hK23 => ?_
                  refine tr_region [4, 5, 13, 14, 15, 16, 25, 26, 104] rfl rfl fun K hK => ?_
                  iterate 2 refine evR_p ?_
                  refine evR_e hK ?_; clear hK K
                  refine hK23 _ ?_
                  refine tr_condB (fun ht4 => ?_) (fun ht4 => ?_)
                  · skip
                    (first | (exfalso; simp_all; done) | skip)
                    all_goals
                      have hjl : j < 2 := by omega
                      have hlm : ([rows.take 13, rowsN k].getD j []).length ≤ maxLen := by
                        match j, hjl with
                        | 0, _ => simp only [List.getD_cons_zero, List.length_take]; unfold maxLen; omega
                        | 1, _ => exact rows_max k
                      obtain ⟨l, hl⟩ : ∃ l, [rows.take 13, rowsN k].getD j [] = l := ⟨_, rfl⟩
                      rw [hl] at hlm
                      replace hq := And.intro hq (And.intro hjl (hl))
                      refine tr_skip ?_
                      (try simp only [thenE, inBlkE])
                      refine hK22 _ ?_
                      refine tr_seq fun K24 hK24 => ?_
                      refine tr_block ?_
                      refine tr_seq fun K25 hK25 => ?_
                      refine tr_draw [] [4, 5, 13, 14, 15, 16, 25, 26, 27, 28] mixed rfl (by kernel_rfl) rfl fun K hK => ?_
                      iterate 5 refine evD_p ?_
                      refine evD_c (hc := ((k19a P p1 p2 p3 l hlm).le (shr_le P l))) (k := ?_)
                      iterate 5 refine evD_p ?_
                      refine evD_e hK ?_; clear hK K
                      refine hK25 _ ?_
                      refine tr_seq fun K26 hK26 => ?_
                      refine tr_draw [] [4, 5, 13, 14, 15, 16, 25, 26, 27, 28, 29, 30] mixed rfl (by kernel_rfl) rfl fun K hK => ?_
                      iterate 5 refine evD_p ?_
                      refine evD_c (hc := (k20a P p1 p2 p3 l hlm)) (k := ?_)
                      iterate 5 refine evD_p ?_
                      refine evD_e hK ?_; clear hK K
                      refine hK26 _ ?_
                      refine tr_seq fun K27 hK27 => ?_
                      refine tr_draw [] [4, 5, 13, 14, 15, 16, 25, 26, 163] mixed rfl (by kernel_rfl) rfl fun K hK => ?_
                      iterate 4 refine evD_p ?_
                      iterate 2 refine evD_g ?_
                      refine evD_gc (hc := (c19 (shrU P l) (shrU P l) (shrU_max P l) (shrU_max P l))) (k := ?_)
                      refine evD_g ?_
                      iterate 2 refine evD_p ?_
                      iterate 5 refine evD_g ?_
                      refine evD_gc (hc := (k21 P p1 p2 p3 l hlm)) (k := ?_)
                      iterate 5 refine evD_g ?_
                      refine evD_gc (hc := (k22 P p1 p2 p3 l hlm)) (k := ?_)
                      refine evD_g ?_
                      iterate 2 refine evD_p ?_
                      iterate 5 refine evD_g ?_
                      refine evD_gc (hc := (k23a P p1 p2 p3 l hlm)) (k := ?_)
                      iterate 5 refine evD_g ?_
                      refine evD_gc (hc := (k24a P p1 p2 p3 l hlm)) (k := ?_)
                      refine evD_g ?_
                      refine evD_p ?_
                      refine evD_e hK ?_; clear hK K
                      refine hK27 _ ?_
                      refine tr_condB (fun ht5 => ?_) (fun ht5 => ?_)
                      · skip
                        (first | (exfalso; simp_all; done) | skip)
                        all_goals
                          refine tr_seq fun K28 hK28 => ?_
                          refine tr_region [12] rfl rfl fun K hK => ?_
                          refine evR_p ?_
                          refine evR_e hK ?_; clear hK K
                          refine hK28 _ ?_
                          refine tr_ret ?_
                          (try simp only [thenE, inBlkE])
                          simp (maxSteps := 4000000) (disch := first | assumption | omega | (simp only [go_sem, *]; done) | (simp only [go_sem, *]; omega)) only [postA, postO, resV1, fzAll, go_sem, hq, Int.reduceToNat, Nat.reduceBEq, Nat.reduceEqDiff, Nat.reduceAdd, Nat.reduceMul, Nat.reduceLeDiff, Nat.reduceLT, Nat.reduceSub, ↓reduceIte, reduceCtorEq]
                          all_goals (rfl)
                      · skip
                        (first | (exfalso; simp_all; done) | skip)
                        all_goals
                          refine tr_skip ?_
                          (try simp only [thenE, inBlkE])
                          refine hK24 _ ?_
                          refine tr_region [4, 5, 13, 14, 15, 16, 25, 26] rfl rfl fun K hK => ?_
                          iterate 3 refine evR_p ?_
                          refine evR_e hK ?_; clear hK K
                          refine hKL2 _ ?_
                          exact ⟨m2 - 1, _, by omega, Wk.refl _, j + 1, by omega, by rw [w64 (x := (j : Int) + 1) (by omega)]; rfl⟩
                  · skip
                    (first | (exfalso; simp_all; done) | skip)
                    all_goals
                      refine tr_exit ?_
                      simp only [thenE, inBlkE, Nat.reduceEqDiff, ↓reduceIte]
                      refine hK11 _ ?_
                      refine tr_region [4, 5, 13, 14, 15] rfl rfl fun K hK => ?_
                      iterate 3 refine evR_p ?_
                      refine evR_e hK ?_; clear hK K
                      refine hKL1 _ ?_
                      exact ⟨m - 1, _, by omega, Wk.cut 0 rfl, i + 1, by omega, by rw [w64 (x := (i : Int) + 1) (by omega)]; rfl⟩
        · skip
          (first | (exfalso; simp_all; done) | skip)
          all_goals
            refine tr_exit ?_
            simp only [thenE, inBlkE, Nat.reduceEqDiff, ↓reduceIte]
            refine hK7 _ ?_
            refine tr_seq fun K29 hK29 => ?_
            refine tr_region [12] rfl rfl fun K hK => ?_
            iterate 2 refine evR_p ?_
            refine evR_e hK ?_; clear hK K
            refine hK29 _ ?_
            refine tr_ret ?_
            (try simp only [thenE, inBlkE])
            simp (maxSteps := 4000000) (disch := first | assumption | omega | (simp only [go_sem, *]; done) | (simp only [go_sem, *]; omega)) only [postA, postO, resV1, fzAll, go_sem, hq, Int.reduceToNat, Nat.reduceBEq, Nat.reduceEqDiff, Nat.reduceAdd, Nat.reduceMul, Nat.reduceLeDiff, Nat.reduceLT, Nat.reduceSub, ↓reduceIte, reduceCtorEq]
            all_goals (rfl)
end

end Go.Proofs.YtgmgifmfhpoglaaDoor


namespace Go.Proofs.YtgmgifmfhpoglaaDoor
open Go.ChangeShapes Go.WideShapes Go.ChangeAt Go.RowKit
set_option linter.unusedVariables false
set_option linter.unusedSimpArgs false

section
variable {H : Type} {enc : TypeId × Value → H} {P : Program} {w : World}

/-- The fields of a struct of n cells from the cell 'off' on. -/
def DecFs (enc : TypeId × Value → H) (P : Program) (w : World) {α : Type} (n off : Nat) (fs : List Field) (ec : α → List V) (Q : α → Prop) : Prop :=
  ∀ (fuel : Nat) (cs : List Value), cs.length = n → (∀ f ∈ fs, ∃ x, DataW.trod enc P w 0 (fun _ => true) true fuel f.type ((cs.drop f.offset).take (P.cellsOf f.type)) = some x) → ∃ a, Q a ∧ Rd w (cs.drop off) (ec a)

theorem decFs_nil {n : Nat} : DecFs enc P w n n [] (fun _ : Unit => []) fun _ => True := by
  intro fuel cs hl _
  exact ⟨(), trivial, by rw [List.drop_eq_nil_of_le (by omega)]; exact Rd.nil⟩
theorem decFs_cons {α β : Type} {n off : Nat} {f : Field} {fs : List Field} {m : Nat} {ea : α → List V} {eb : β → List V} {Qa : α → Prop} {Qb : β → Prop}
    (ho : f.offset = off) (hm : P.cellsOf f.type = m) (ha : Dec enc P w f.type ea Qa) (hb : DecFs enc P w n (off + m) fs eb Qb) :
    DecFs enc P w n off (f :: fs) (fun p : α × β => ea p.1 ++ eb p.2) fun p => Qa p.1 ∧ Qb p.2 := by
  intro fuel cs hl h
  obtain ⟨x, hx⟩ := h f (by simp)
  obtain ⟨a, qa, ra⟩ := ha _ _ _ hx
  obtain ⟨b, qb, rb⟩ := hb fuel cs hl fun g hg => h g (List.mem_cons_of_mem _ hg)
  refine ⟨(a, b), ⟨qa, qb⟩, ?_⟩
  have := ra.append rb
  rw [ho, hm] at this
  have e : List.take m (List.drop off cs) ++ List.drop (off + m) cs = List.drop off cs := by
    rw [← List.drop_drop, List.take_append_drop]
  rw [e] at this
  exact this
theorem dec_struct {α : Type} {t : TypeId} {fs : Array Field} {n : Nat} {ec : α → List V} {Q : α → Prop} (ht : P.underlying t = some (.struct fs)) (hn : P.cellsOf t = n) (h : DecFs enc P w n 0 fs.toList ec Q) : Dec enc P w t ec Q := by
  intro fuel cs x hx
  obtain ⟨xs, k, rfl, rfl, hl, hxl, hi⟩ := DataW.trod_struct ht hx
  obtain ⟨a, qa, ra⟩ := h k cs (by rw [hl, hn]) fun f hf => by
    obtain ⟨i, hil, rfl⟩ := List.mem_iff_getElem.1 hf
    have hil' : i < fs.size := by simpa using hil
    have := hi i fs[i] (by simp [hil'])
    rw [List.getElem?_eq_getElem (by omega)] at this
    exact ⟨_, by simpa using this⟩
  exact ⟨a, qa, by simpa using ra⟩

theorem rel_row {α : Type} {e : TypeId} {sz n : Nat} {ec : α → List V} {Q : α → Prop} (hs : P.cellsOf e = sz) (hd : Dec enc P w e ec Q) {b off len cap : Nat} (hl : len ≤ cap) (hm : cap ≤ maxLen)
    (hel : ∀ i, i < len → ∃ cs' x, w.cells? 0 ((⟨b, off, none⟩ : Addr).add (i * P.cellsOf e)) (P.cellsOf e) = some cs' ∧ DataW.trod enc P w 0 (fun _ => true) true n e cs' = some x) :
    ∃ asx : List α, (∀ a ∈ asx, Q a) ∧ asx.length = len ∧ Rel w (fun _ => False) (fun _ => 0) (fun _ => undef) 0 true (.sl sz (asx.map ec)) (.slice (some ⟨b, off, none⟩) len cap) := by
  obtain ⟨asx, k1, k2, k3⟩ := hd.choose (fun i => ((w.cells? 0 ((⟨b, off, none⟩ : Addr).add (i * P.cellsOf e)) (P.cellsOf e)).getD [])) len fun i hi => by
    obtain ⟨cs', x, q1, q2⟩ := hel i hi
    rw [q1]; exact ⟨_, _, q2⟩
  refine ⟨asx, k2, k1, ?_⟩
  have rows : ∀ i (hi : i < asx.length), ((asx.map ec).getD i []) = ec asx[i] := fun i hi => by simp [List.getD, hi]
  have key : ∀ i (hi : i < asx.length), ∃ cs', Rd w cs' (ec asx[i]) ∧ cs'.length = sz ∧ ∀ j, j < sz → w.cell? ⟨b, off + (i * sz + j), none⟩ = some (cs'.getD j undef) := fun i hi => by
    obtain ⟨cs', x, q1, q2⟩ := hel i (by omega)
    have := k3 i hi
    simp only [q1, Option.getD_some] at this
    obtain ⟨hl', hc'⟩ := cells_get q1
    rw [hs] at hl' hc'
    refine ⟨cs', this, hl', fun j hj => ?_⟩
    rw [← hc' j hj]
    congr 1
    unfold Addr.add
    by_cases hi0 : i * sz = 0
    · by_cases hj0 : j = 0 <;> simp [hi0, hj0]
    · by_cases hj0 : j = 0 <;> simp [hi0, hj0, Nat.add_assoc]
  refine .sl true sz (asx.map ec) b off len cap (fun i j => ((w.cell? ⟨b, off + (i * sz + j), none⟩).getD undef)) (by simp [k1]) hl hm ?_ ?_ ?_ ?_
  · intro i hi
    have hi' : i < asx.length := by simpa using hi
    obtain ⟨cs', q1, q2, q3⟩ := key i hi'
    rw [rows i hi', q1.1, q2]
  · intro i j hi hj
    have hi' : i < asx.length := by simpa using hi
    obtain ⟨cs', q1, q2, q3⟩ := key i hi'
    rw [rows i hi']
    exact (q1.2 j (by rw [q1.1]; omega)).1
  · intro i j hi hj
    have hi' : i < asx.length := by simpa using hi
    obtain ⟨cs', q1, q2, q3⟩ := key i hi'
    simp only [q3 j hj, Option.getD_some]
    exact ⟨trivial, id⟩
  · intro i j hi hj
    have hi' : i < asx.length := by simpa using hi
    obtain ⟨cs', q1, q2, q3⟩ := key i hi'
    rw [rows i hi']
    simp only [q3 j hj, Option.getD_some]
    exact (q1.2 j (by rw [q1.1]; omega)).2

/-- A slice within. -/
theorem dec_slice {α : Type} {t e : TypeId} {sz : Nat} {ec : α → List V} {Q : α → Prop} (ht : P.underlying t = some (.slice e)) (hs : P.cellsOf e = sz) (hz : 0 < sz) (hd : Dec enc P w e ec Q) :
    Dec enc P w t (fun asx : List α => [.sl sz (asx.map ec)]) fun asx => asx.length ≤ maxLen ∧ ∀ a ∈ asx, Q a := by
  intro fuel cs x hf
  rcases Deep.open_slice ht hf with ⟨rfl, -⟩ | ⟨a, len, cap, m, n, D, Pl, rfl, -, hl, hm, hme, -, hel⟩
  · exact ⟨[], ⟨by simp, fun a ha => by simp at ha⟩, Rd.one rfl (.slnil _ _ _)⟩
  · simp only [if_true] at hme
    subst hme
    by_cases hc : m = 0
    · have : len = 0 := by omega
      subst hc; subst this
      exact ⟨[], ⟨by simp, fun a ha => by simp at ha⟩, Rd.one rfl (.slnil _ _ _)⟩
    · have hsp : a.spot = none := by
        obtain ⟨cs', q1, -⟩ := hel 0 (by omega)
        obtain ⟨-, hc'⟩ := cells_get q1
        have := hc' 0 (by omega)
        simp only [Nat.zero_mul, Addr.add, if_true] at this
        unfold World.cell? at this
        split at this
        · split at this
          · cases this
          · simpa using ‹¬ a.spot.isSome = true›
        · cases this
      obtain ⟨b, off, spot⟩ := a
      simp only at hsp
      subst hsp
      obtain ⟨asx, q, e1, hr⟩ := rel_row hs hd hl hm fun i hi => by
        obtain ⟨cs', q1, q2⟩ := hel i (by omega)
        exact ⟨cs', _, q1, q2⟩
      exact ⟨asx, ⟨by omega, q⟩, Rd.one rfl hr⟩
end
end Go.Proofs.YtgmgifmfhpoglaaDoor

namespace Go.Proofs.YtgmgifmfhpoglaaDoor
open Go.ChangeShapes Go.WideShapes Go.ChangeAt Go.RowKit
set_option linter.unusedVariables false
set_option maxRecDepth 100000
theorem Tryd.own : ownKnob Tryd.prog.godebug = none := by kernel_rfl
theorem Tryd.laidOut : laidOutB Tryd.prog = true := by kernel_rfl
def laid2 : List (String × DataW Unit) := [("math/bits.deBruijn32tab", Rows.laid_math_bits_deBruijn32tab), ("math/bits.deBruijn64tab", Rows.laid_math_bits_deBruijn64tab)]
theorem g64 : Tryd.prog.globalNamed "math/bits.deBruijn64tab" = some 1 := by kernel_rfl
/-- The door's own heap meets the condition. -/
theorem door_met (os : Os) (args : Array Value) : laidMetH Tryd.prog laid2 ((World.doorLaid Tryd.prog 400 os).forCall (fun _ _ => 0) ⟨#[], args, []⟩).memory :=
  laidMetH_of_parts3 (fuel := 8) (laidMet_of_run' 8 (by kernel_rfl) (by kernel_rfl)) (by kernel_rfl) (by kernel_rfl)
theorem tab_trod {H : Type} {enc : TypeId × Value → H} {P : Program} {w : World} {base : Nat} {spare : Nat → Bool} {held : Bool} {fuel n : Nat} {t e : TypeId} {cs : List Value} {m : List MemPlace} {ks : List Int} {kk : IntKind}
    (ht : P.underlying t = some (.array n e)) (he : P.underlying e = some (.int kk)) (hc : P.cellsOf e = 1) (h : DataW.trod enc P w base spare held fuel t cs = some (.agg (ks.map fun k => .lit (.int kk k)), m)) (i : Nat) (hi : i < n) : cs[i]? = some (.int kk (ks.getD i 0)) := by
  obtain ⟨xs, m1, rfl, hx, hl, hn, hel⟩ := DataW.trod_array ht h
  simp only [Prod.mk.injEq, DataW.agg.injEq] at hx
  have h1 := hel i hi
  rw [hc, Nat.mul_one, List.getElem?_eq_getElem (by omega)] at h1
  obtain ⟨k, e1, e2, -⟩ := DataW.trod_int he h1
  have h2 : (List.map (fun k => DataW.lit (H := H) (.int kk k)) ks)[i]? = some (.lit (.int kk k)) := by
    rw [hx.1, List.getElem?_map, List.getElem?_eq_getElem (by omega), e2]; rfl
  rw [List.getElem?_map] at h2
  obtain ⟨k2, h3, h4⟩ := Option.map_eq_some_iff.1 h2
  have h5 : k2 = k := by simpa using h4
  have h6 : ks.getD i 0 = k := by simp [List.getD, h3, h5]
  rw [h6]
  have h7 : ((cs.drop i).take 1)[0]? = some (.int kk k) := by rw [e1]; rfl
  simpa [List.getElem?_take, List.getElem?_drop] using h7
theorem laid64 : (Rows.laid_math_bits_deBruijn64tab : DataW Unit) = .agg (tab64.map fun k => .lit (.int .u8 k)) := by kernel_rfl
theorem gtc_of_laid {W : World} (h : laidMetH Tryd.prog laid2 W) : GTC W fun _ => False := by
  intro g hg
  have hg1 : g = 1 := by
    unfold gtab at hg
    by_cases e : g = 1
    · exact e
    · rw [if_neg e] at hg; exact (hg rfl).elim
  subst hg1
  rw [MakeChecks.laidMetH_plain _ _ _ (by kernel_rfl)] at h
  obtain ⟨ps, ⟨g0, t0, cs0, f0, p0, q0, hg0, ht0, hv0, hd0, ⟨g1, t1, cs1, f1, p1, q1, hg1, ht1, hv1, hd1, _, _⟩, _⟩, _, _⟩ := h
  obtain rfl := Option.some.inj (g64.symm.trans hg1)
  obtain rfl := Option.some.inj ((show (Tryd.prog.globals[1]?).map (·.type) = some 103 by kernel_rfl).symm.trans ht1)
  rw [laid64] at hd1
  have hc := fun i hi => tab_trod Tryd.underlying103 Tryd.underlying5 (by kernel_rfl) hd1 i hi
  have hlen : (gtab 1).length = 64 := by rw [gtab_1]; kernel_rfl
  have hget : ∀ j, j < 64 → (gtab 1).getD j .any = V.int .u8 (tab64.getD j 0) := fun j hj => by
    rw [gtab_1]
    have : j < tab64.length := hj
    simp [List.getD, this]
  refine .ep true (gtab 1) 1 0 (fun j => .int .u8 (tab64.getD j 0)) (fun j hj => ?_) (fun j hj => ?_) (fun j hj => ?_)
  · rw [hget j (by omega)]; rfl
  · rw [hlen] at hj
    rw [Nat.zero_add]
    refine ⟨?_, id⟩
    rw [World.var?_cell hg1 hv1 j]
    have := hc j hj
    simpa using this
  · rw [hget j (by omega)]; exact .int ..
section
variable {H : Type} {enc : TypeId × Value → H} {w : World}
theorem okI_of_wf {n : Int} (h : (Lit.int .i64 n).wf = true) : okI n := by
  simp [Lit.wf, IntKind.min, IntKind.max, IntKind.signed, IntKind.bits] at h
  unfold okI; omega
theorem dec3 : Dec enc Tryd.prog w 55 (fun t : T3 => [V.int .i64 t.p, V.int .i64 t.q, V.int .i64 t.r]) okT :=
  (dec_array (n := 3) (sz := 1) Tryd.underlying55 (by kernel_rfl) (by kernel_rfl) (dec_int Tryd.underlying3)).turn (fun xs => ⟨xs.getD 0 0, xs.getD 1 0, xs.getD 2 0⟩) fun xs h => by
    obtain ⟨h1, h2⟩ := h
    match xs, h1 with
    | [x, y, z], _ => exact ⟨rfl, okI_of_wf (h2 x (by simp)), okI_of_wf (h2 y (by simp)), okI_of_wf (h2 z (by simp))⟩
def okG (n : Nat) (a : List Int) : Prop := a.length = n ∧ ∀ c ∈ a, okI c
theorem decG {t : TypeId} {n : Nat} (ht : Tryd.prog.underlying t = some (.array n 3)) (h1 : Tryd.prog.cellsOf 3 = 1) (h2 : Tryd.prog.cellsOf t = n * 1) : Dec enc Tryd.prog w t (fun a : List Int => cellsI a) (okG n) :=
  (dec_array (n := n) (sz := 1) ht h1 h2 (dec_int Tryd.underlying3)).turn (fun xs => xs) fun xs h => ⟨by show xs.map (V.int .i64) = _; exact List.map_eq_flatMap, h.1, fun c hc => okI_of_wf (h.2 c hc)⟩
theorem dec8 : Dec enc Tryd.prog w 27 (fun a : List Int => cellsI a) (okG 8) := decG Tryd.underlying27 (by kernel_rfl) (by kernel_rfl)
end
end Go.Proofs.YtgmgifmfhpoglaaDoor

namespace Go.Proofs.YtgmgifmfhpoglaaDoor
open Go.ChangeShapes Go.WideShapes Go.ChangeAt Go.RowKit
section
variable {H : Type} {enc : TypeId × Value → H} {w : World}
theorem decI : Dec enc Tryd.prog w 23 (fun l : List Int => [V.sl 1 (encI l)]) fun l => l.length ≤ maxLen ∧ ∀ c ∈ l, okI c :=
  (dec_slice (sz := 1) Tryd.underlying23 (by kernel_rfl) (by decide) (dec_int Tryd.underlying3)).turn (fun xs => xs) fun xs h => ⟨rfl, h.1, fun c hc => okI_of_wf (h.2 c hc)⟩
theorem decRw : Dec enc Tryd.prog w 54 encRw fun r => r.coef.length ≤ maxLen :=
  (dec_struct (n := 6) Tryd.underlying54 (by kernel_rfl)
    (decFs_cons (m := 1) rfl (by kernel_rfl) (dec_int Tryd.underlying3) (decFs_cons (m := 1) rfl (by kernel_rfl) (dec_int Tryd.underlying3) (decFs_cons (m := 1) rfl (by kernel_rfl) (dec_int Tryd.underlying3)
      (decFs_cons (m := 1) rfl (by kernel_rfl) (dec_int Tryd.underlying3) (decFs_cons (m := 1) rfl (by kernel_rfl) decI (decFs_cons (m := 1) rfl (by kernel_rfl) (dec_int Tryd.underlying3) decFs_nil))))))).turn
    (fun x => ⟨x.1, x.2.1, x.2.2.1, x.2.2.2.1, x.2.2.2.2.1, x.2.2.2.2.2.1⟩) fun x h => ⟨rfl, h.2.2.2.2.1.1⟩
theorem decPg : Dec enc Tryd.prog w 25 encPg fun p => p.rows.length ≤ maxLen ∧ p.gain.length ≤ maxLen ∧ ∀ r ∈ p.rows, r.coef.length ≤ maxLen :=
  (dec_struct (n := 3) Tryd.underlying25 (by kernel_rfl)
    (decFs_cons (m := 1) rfl (by kernel_rfl) (dec_int Tryd.underlying3) (decFs_cons (m := 1) rfl (by kernel_rfl) (dec_slice (sz := 6) Tryd.underlying22 (by kernel_rfl) (by decide) decRw) (decFs_cons (m := 1) rfl (by kernel_rfl) decI decFs_nil)))).turn
    (fun x => ⟨x.1, x.2.1, x.2.2.1⟩) fun x h => ⟨rfl, h.2.1.1, h.2.2.1.1, h.2.1.2⟩
end
end Go.Proofs.YtgmgifmfhpoglaaDoor
