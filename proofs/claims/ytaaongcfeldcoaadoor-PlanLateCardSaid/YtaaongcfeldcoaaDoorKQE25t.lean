import Derived.Test.YtaaongcfeldcoaaDoorKQb
import Derived.Test.YtaaongcfeldcoaaDoorKQc
import Derived.Test.YtaaongcfeldcoaaDoorKQe
namespace Go.Proofs.YtaaongcfeldcoaaDoor
open Go.RowKit
set_option linter.unusedVariables false
set_option linter.unusedSimpArgs false
set_option maxRecDepth 100000
attribute [local go_sem] Nat.zero_add Nat.add_zero Nat.mul_one eq_self ne_eq not_true_eq_false not_false_eq_true decide_true decide_false decide_not Bool.false_eq_true List.filter_cons List.filter_nil true_and and_true beq_false beq_true Bool.not_true Bool.not_false Bool.and_true Bool.true_and Option.getD_some Option.getD_none imp_self implies_true Int.toNat_natCast List.cons_append List.nil_append List.map_cons List.map_nil List.length_cons List.length_nil List.getD_cons_zero List.getD_cons_succ List.drop_zero List.drop_succ_cons List.take_succ_cons List.take_zero
attribute [local go_sem] lowN lowQ lowM isAl appOwn unw appF isE isO stpO notIn St.bare evO evDO isEff stp St.get St.slot St.put List.lookup un unL ofVal gof nth pickV pkB_false pkB_true binV unV loadV idxV fldV partV buildV fillV lenV sliV appV appR rowsV winV V.parts V.okp V.sc Mem.look_cons Mem.look_nil V.cl V.clL AObj.clo fzAll exps St.fz Mem.fz V.fz V.fzL AObj.fz Option.isSome_some Option.isSome_none Bool.or_true Bool.true_or Bool.or_false Bool.false_or false_and and_false false_or or_false arT_112 arT_22 arT_23 arT_27 arT_28 arT_29 arT_33 arT_52 arT_57 arT_65 arT_76 arT_77 arT_84 arT_88 arT_9 arT_95 boolT_133 boolT_29 boolT_3 boolT_36 boolT_4 boolT_70 boolT_92 flatT_133 flatT_29 flatT_3 flatT_36 flatT_4 flatT_70 flatT_92 intT_121 intT_142 intT_144 intT_145 intT_3 intT_5 lay_110 lay_145 lay_22 lay_23 lay_25 lay_27 lay_28 lay_29 lay_3 lay_31 lay_33 lay_35 lay_4 lay_42 lay_51 lay_56 lay_57 lay_59 lay_70 lay_73 lay_77 lay_79 lay_81 lay_83 lay_84 lay_85 lay_88 lay_92 lay_94 lay_95 okF_10 okF_100 okF_101 okF_102 okF_103 okF_104 okF_105 okF_11 okF_12 okF_122 okF_123 okF_124 okF_125 okF_126 okF_127 okF_13 okF_14 okF_15 okF_16 okF_17 okF_18 okF_19 okF_20 okF_21 okF_22 okF_23 okF_24 okF_25 okF_26 okF_27 okF_28 okF_29 okF_3 okF_30 okF_31 okF_32 okF_33 okF_34 okF_35 okF_36 okF_37 okF_38 okF_39 okF_4 okF_40 okF_41 okF_42 okF_43 okF_44 okF_45 okF_46 okF_47 okF_48 okF_49 okF_5 okF_50 okF_51 okF_52 okF_53 okF_54 okF_55 okF_56 okF_57 okF_58 okF_59 okF_6 okF_60 okF_61 okF_62 okF_63 okF_64 okF_65 okF_66 okF_67 okF_68 okF_69 okF_7 okF_70 okF_71 okF_72 okF_73 okF_74 okF_75 okF_76 okF_77 okF_78 okF_79 okF_8 okF_80 okF_81 okF_82 okF_83 okF_84 okF_85 okF_86 okF_87 okF_88 okF_89 okF_9 okF_90 okF_91 okF_92 okF_93 okF_94 okF_95 okF_96 okF_97 okF_98 okF_99 plT_31 plT_35 plT_51 plT_56 plT_59 plT_70 plT_73 plT_90 plT_92 plT_95 slT_112 slT_22 slT_23 slT_27 slT_28 slT_29 slT_33 slT_52 slT_57 slT_65 slT_76 slT_77 slT_88 slT_95 stT_25_0 stT_25_1 stT_25_2 stT_25_3 stT_25_4 stT_31_0 stT_31_1 stT_31_2 stT_31_3 stT_35_0 stT_35_1 stT_35_2 stT_35_3 stT_51_0 stT_51_1 stT_56_0 stT_56_1 stT_56_2 stT_56_3 stT_59_0 stT_59_1 stT_59_2 stT_73_0 stT_73_3 stT_73_4 stT_73_5 stT_79_0 stT_79_1 stT_79_2 stT_83_0 stT_90_0 stT_90_1 stT_90_2 stT_90_3 strT_76 strT_77 strT_84 strT_9 zeroT_112 zeroT_145 zeroT_3 zeroT_31 zeroT_33 zeroT_35 zeroT_42 zeroT_51 zeroT_56 zeroT_57 zeroT_59 zeroT_70 zeroT_73 zeroT_79 zeroT_83 zeroT_90 zeroT_92 zeroT_95
attribute [local go_sem] List.getElem?_cons_zero List.getElem?_cons_succ List.zip_cons_cons List.zip_nil_left List.zip_nil_right Bool.false_and Bool.and_false List.length_append List.length_set List.length_replicate List.all_cons List.all_nil encI_length encI_getD encR_length encR_getD encRw encPg spl shp AObj.shp rowM isSt isRpS isRd csh AObj.csh forall_const imp_self
attribute [local go_sem] encHr encOf encSp encP2 encSps_length encOfs_length encP2s_length encSps_getD encOfs_getD encP2s_getD
attribute [local simp] encI_length encR_length cellsI_length encSps_length encOfs_length encP2s_length
set_option maxHeartbeats 8000000 in
theorem k6z (fr : Int) (rs : List P2) (os : List Of) (ap mu : Int) (hrl : rs.length ≤ maxLen) (hol : os.length ≤ maxLen) (hrk : ∀ p ∈ rs, okP2 p) (hok : ∀ o ∈ os, okO o) (hf : okI fr) (s la : Int) (hs : okI s) (hla : okI la) (h0 : (madeH fr rs os ap mu).rooms.length = 0) : CallsA Tryd.prog 6 [.agg [.int .i64 fr, .sl 2 (encP2s rs), .sl 4 (encOfs os), .int .i64 ap, .int .i64 mu], .int .i64 s, .int .i64 la] (.bool true) := by
  have hk9 := k9 fr rs os ap mu hrl hol hrk hf
  have hv := made_validH (ap := ap) (mu := mu) hf hrk hok
  generalize madeH fr rs os ap mu = M at hk9 hv h0
  have hV := validH_all hv
  have hr : M.rooms.length ≤ maxLen := by have := hV.rl; unfold maxLen; omega
  have ho : M.offers.length ≤ maxLen := by have := hV.ol; unfold maxLen; omega
  have ha : M.apart.length ≤ maxLen := by have := hV.al; unfold maxLen; omega
  have hm : M.must.length ≤ maxLen := by have := hV.ml; unfold maxLen; omega
  have holM := hV.ol
  have hrlM := hV.rl
  have hpv := progH_valid hV
  have hkz := keeps_zero hv
  have hq := And.intro hv (And.intro h0 (hkz))
  refine callsA_of_tr Tryd.func6 rfl (Nat.le_of_ble_eq_true rfl) ?_
  simp only [Tryd.results6, envOf, Nat.reduceAdd]
  refine tr_seq fun K1 hK1 => ?_
  refine tr_region [1, 2, 3] rfl rfl fun K hK => ?_
  iterate 2 refine evR_p ?_
  refine evR_e hK ?_; clear hK K
  refine hK1 _ ?_
  refine tr_seq fun K2 hK2 => ?_
  refine tr_seq fun K3 hK3 => ?_
  refine tr_region [1, 2, 3, 18] rfl rfl fun K hK => ?_
  refine evR_c (hc := k8) (k := ?_)
  refine evR_p ?_
  refine evR_e hK ?_; clear hK K
  refine hK3 _ ?_
  refine tr_condB (fun ht1 => ?_) (fun ht1 => ?_)
  · skip
    (first | (exfalso; omega) | (exfalso; simp_all; done) | skip)
    all_goals
      refine tr_seq fun K4 hK4 => ?_
      refine tr_region [6] rfl rfl fun K hK => ?_
      refine evR_p ?_
      refine evR_e hK ?_; clear hK K
      refine hK4 _ ?_
      refine tr_ret ?_
      (try simp only [thenE, inBlkE])
      simp (maxSteps := 4000000) (disch := first | assumption | omega | (simp only [go_sem, *]; done) | (simp only [go_sem, *]; omega)) only [postA, postO, resV1, fzAll, go_sem, hq, Int.reduceToNat, Nat.reduceBEq, Nat.reduceEqDiff, Nat.reduceAdd, Nat.reduceMul, Nat.reduceLeDiff, Nat.reduceLT, Nat.reduceSub, ↓reduceIte, reduceCtorEq]
      all_goals (simp_all)
  · skip
    (first | (exfalso; omega) | (exfalso; simp_all; done) | skip)
    all_goals
      refine tr_skip ?_
      (try simp only [thenE, inBlkE])
      refine hK2 _ ?_
      refine tr_seq fun K5 hK5 => ?_
      refine tr_region [1, 2, 7] rfl rfl fun K hK => ?_
      refine evR_p ?_
      refine evR_c (hc := hk9) (k := ?_)
      iterate 2 refine evR_p ?_
      refine evR_e hK ?_; clear hK K
      refine hK5 _ ?_
      refine tr_seq fun K6 hK6 => ?_
      refine tr_seq fun K7 hK7 => ?_
      refine tr_region [1, 2, 7, 24] rfl rfl fun K hK => ?_
      iterate 4 refine evR_p ?_
      refine evR_e hK ?_; clear hK K
      refine hK7 _ ?_
      refine tr_condB (fun ht2 => ?_) (fun ht2 => ?_)
      · skip
        (first | (exfalso; omega) | (exfalso; simp_all; done) | skip)
        all_goals
          refine tr_seq fun K8 hK8 => ?_
          refine tr_draw [] [6] mixed rfl (by kernel_rfl) rfl fun K hK => ?_
          refine evD_p ?_
          refine evD_c (hc := (k19 M hr ho ha hm)) (k := ?_)
          refine evD_p ?_
          refine evD_g ?_
          refine evD_gc (hc := (k12 M hr ho ha hm 0)) (k := ?_)
          iterate 5 refine evD_g ?_
          iterate 2 refine evD_p ?_
          refine evD_e hK ?_; clear hK K
          refine hK8 _ ?_
          refine tr_ret ?_
          (try simp only [thenE, inBlkE])
          simp (maxSteps := 4000000) (disch := first | assumption | omega | (simp only [go_sem, *]; done) | (simp only [go_sem, *]; omega)) only [postA, postO, resV1, fzAll, go_sem, hq, Int.reduceToNat, Nat.reduceBEq, Nat.reduceEqDiff, Nat.reduceAdd, Nat.reduceMul, Nat.reduceLeDiff, Nat.reduceLT, Nat.reduceSub, ↓reduceIte, reduceCtorEq]
          all_goals (simp_all)
      · skip
        (first | (exfalso; omega) | (exfalso; simp_all; done) | skip)
        all_goals
          refine tr_skip ?_
          (try simp only [thenE, inBlkE])
          refine hK6 _ ?_
          refine tr_seq fun K9 hK9 => ?_
          refine tr_region [1, 2, 7, 8] rfl rfl fun K hK => ?_
          iterate 3 refine evR_p ?_
          refine evR_e hK ?_; clear hK K
          refine hK9 _ ?_
          refine tr_seq fun K10 hK10 => ?_
          refine tr_region [1, 2, 7, 8] rfl rfl fun K hK => ?_
          refine evR_bo ?_
          iterate 5 refine evR_p ?_
          refine evR_e hK ?_; clear hK K
          refine hK10 _ ?_
          refine tr_seq fun K11 hK11 => ?_
          refine tr_draw [] [1, 7, 8] mixed rfl (by kernel_rfl) rfl fun K hK => ?_
          iterate 19 refine evD_p ?_
          refine evD_c (hc := c14) (k := ?_)
          iterate 4 refine evD_p ?_
          refine evD_e hK ?_; clear hK K
          refine hK11 _ ?_
          refine tr_seq fun K12 hK12 => ?_
          refine tr_region [7, 8, 9] rfl rfl fun K hK => ?_
          iterate 2 refine evR_p ?_
          refine evR_c (hc := (k11 M holM s)) (k := ?_)
          refine evR_p ?_
          refine evR_e hK ?_; clear hK K
          refine hK12 _ ?_
          refine tr_seq fun K13 hK13 => ?_
          refine tr_region [7, 8, 9, 10] rfl rfl fun K hK => ?_
          refine evR_p ?_
          refine evR_e hK ?_; clear hK K
          refine hK13 _ ?_
          refine tr_seq fun K14 hK14 => ?_
          refine tr_seq fun K15 hK15 => ?_
          refine tr_region [7, 8, 9, 10, 11] rfl rfl fun K hK => ?_
          refine evR_p ?_
          refine evR_e hK ?_; clear hK K
          refine hK15 _ ?_
          refine tr_block ?_
          -- loop 1: live [7, 8, 9, 10, 11]
          refine tr_loopW (fun m σ => ∃ i : Nat, i + m = M.offers.length ∧ σ = ⟨[(7, .ptr 1 0), (8, .ptr 2 0), (9, .int .i64 (choW M s)), (10, .int .i64 (aprN M i : Nat)), (11, .int .i64 (i : Nat))], [(2, .cells (encHr (lateH M (pickW la ((M.rooms.getD 0 sp0).to - (M.rooms.getD 0 sp0).fr))))), (1, .cells (encHr M)), (0, .cells [.int .i64 fr, .sl 2 (encP2s rs), .sl 4 (encOfs os), .int .i64 ap, .int .i64 mu])], 3⟩) (M.offers.length) ?_ ?_
          · exact ⟨_, Wk.cut 3 rfl, 0, by omega, rfl⟩
          · rintro m σ ⟨i, hi, rfl⟩ KL1 hKL1
            refine tr_seq fun K16 hK16 => ?_
            refine tr_seq fun K17 hK17 => ?_
            refine tr_region [7, 8, 9, 10, 11, 72] rfl rfl fun K hK => ?_
            iterate 5 refine evR_p ?_
            refine evR_e hK ?_; clear hK K
            refine hK17 _ ?_
            refine tr_condB (fun ht3 => ?_) (fun ht3 => ?_)
            · skip
              (first | (exfalso; omega) | (exfalso; simp_all; done) | skip)
              all_goals
                have hil : i < M.offers.length := by omega
                obtain ⟨ha1, ha2⟩ := apr_step (h := M) (n := i) (by omega)
                replace hq := And.intro hq (hil)
                refine tr_skip ?_
                (try simp only [thenE, inBlkE])
                refine hK16 _ ?_
                refine tr_seq fun K18 hK18 => ?_
                refine tr_block ?_
                refine tr_seq fun K19 hK19 => ?_
                refine tr_region [7, 8, 9, 10, 11, 81] rfl rfl fun K hK => ?_
                iterate 7 refine evR_p ?_
                refine evR_e hK ?_; clear hK K
                refine hK19 _ ?_
                refine tr_condB (fun ht4 => ?_) (fun ht4 => ?_)
                · skip
                  (first | (exfalso; omega) | (exfalso; simp_all; done) | skip)
                  all_goals
                    refine tr_region [7, 8, 9, 10, 11] rfl rfl fun K hK => ?_
                    iterate 5 refine evR_p ?_
                    refine evR_e hK ?_; clear hK K
                    refine hK18 _ ?_
                    refine tr_region [7, 8, 9, 10, 11] rfl rfl fun K hK => ?_
                    iterate 3 refine evR_p ?_
                    refine evR_e hK ?_; clear hK K
                    refine hKL1 _ ?_
                    first | exact ⟨m - 1, _, by omega, Wk.refl _, i + 1, by omega, by rw [w64 (x := (i : Int) + 1) (by omega), ha1 ht4]; rfl⟩ | exact ⟨m - 1, _, by omega, Wk.refl _, i + 1, by omega, by rw [w64 (x := (i : Int) + 1) (by omega), ha2 ht4]; rfl⟩
                · skip
                  (first | (exfalso; omega) | (exfalso; simp_all; done) | skip)
                  all_goals
                    refine tr_skip ?_
                    (try simp only [thenE, inBlkE])
                    refine hK18 _ ?_
                    refine tr_region [7, 8, 9, 10, 11] rfl rfl fun K hK => ?_
                    iterate 3 refine evR_p ?_
                    refine evR_e hK ?_; clear hK K
                    refine hKL1 _ ?_
                    first | exact ⟨m - 1, _, by omega, Wk.refl _, i + 1, by omega, by rw [w64 (x := (i : Int) + 1) (by omega), ha1 ht4]; rfl⟩ | exact ⟨m - 1, _, by omega, Wk.refl _, i + 1, by omega, by rw [w64 (x := (i : Int) + 1) (by omega), ha2 ht4]; rfl⟩
            · skip
              (first | (exfalso; omega) | (exfalso; simp_all; done) | skip)
              all_goals
                have hil : i = M.offers.length := by omega
                subst hil
                refine tr_exit ?_
                simp only [thenE, inBlkE, Nat.reduceEqDiff, ↓reduceIte]
                refine hK14 _ ?_
                refine tr_seq fun K20 hK20 => ?_
                refine tr_region [7, 8, 9, 12] rfl rfl fun K hK => ?_
                iterate 4 refine evR_p ?_
                refine evR_e hK ?_; clear hK K
                refine hK20 _ ?_
                refine tr_seq fun K21 hK21 => ?_
                refine tr_region [7, 8, 9, 12, 13, 14] rfl rfl fun K hK => ?_
                refine evR_p ?_
                refine evR_c (hc := (k10 M hv)) (k := ?_)
                iterate 6 refine evR_p ?_
                refine evR_e hK ?_; clear hK K
                refine hK21 _ ?_
                refine tr_seq fun K22 hK22 => ?_
                refine tr_region [7, 8, 9, 12, 13, 14, 15, 16] rfl rfl fun K hK => ?_
                refine evR_p ?_
                refine evR_c (hc := (k10 M hv)) (k := ?_)
                iterate 6 refine evR_p ?_
                refine evR_e hK ?_; clear hK K
                refine hK22 _ ?_
                refine tr_seq fun K23 hK23 => ?_
                refine tr_seq fun K24 hK24 => ?_
                refine tr_region [13, 15, 131] rfl rfl fun K hK => ?_
                iterate 3 refine evR_p ?_
                iterate 2 refine evR_g ?_
                iterate 2 refine evR_p ?_
                refine evR_g ?_
                refine evR_gc (hc := (k19 M hr ho ha hm)) (k := ?_)
                refine evR_g ?_
                iterate 2 refine evR_p ?_
                iterate 2 refine evR_g ?_
                refine evR_gc (hc := (k12 M hr ho ha hm 0)) (k := ?_)
                iterate 3 refine evR_g ?_
                refine evR_gc (hc := (k12 M hr ho ha hm 0)) (k := ?_)
                iterate 2 refine evR_g ?_
                iterate 2 refine evR_p ?_
                iterate 2 refine evR_g ?_
                refine evR_gc (hc := (k12 M hr ho ha hm 0)) (k := ?_)
                iterate 3 refine evR_g ?_
                refine evR_gc (hc := (k12 M hr ho ha hm 0)) (k := ?_)
                iterate 2 refine evR_g ?_
                refine evR_p ?_
                refine evR_e hK ?_; clear hK K
                refine hK24 _ ?_
                refine tr_condB (fun ht5 => ?_) (fun ht5 => ?_)
                · skip
                  (first | (exfalso; omega) | (exfalso; simp_all; done) | skip)
                  all_goals
                    refine tr_seq fun K25 hK25 => ?_
                    refine tr_region [6] rfl rfl fun K hK => ?_
                    refine evR_p ?_
                    refine evR_e hK ?_; clear hK K
                    refine hK25 _ ?_
                    refine tr_ret ?_
                    (try simp only [thenE, inBlkE])
                    simp (maxSteps := 4000000) (disch := first | assumption | omega | (simp only [go_sem, *]; done) | (simp only [go_sem, *]; omega)) only [postA, postO, resV1, fzAll, go_sem, hq, Int.reduceToNat, Nat.reduceBEq, Nat.reduceEqDiff, Nat.reduceAdd, Nat.reduceMul, Nat.reduceLeDiff, Nat.reduceLT, Nat.reduceSub, ↓reduceIte, reduceCtorEq]
                    all_goals (simp_all)
                · skip
                  (first | (exfalso; omega) | (exfalso; simp_all; done) | skip)
                  all_goals
                    refine tr_skip ?_
                    (try simp only [thenE, inBlkE])
                    refine hK23 _ ?_
                    refine tr_seq fun K26 hK26 => ?_
                    refine tr_region [6] rfl rfl fun K hK => ?_
                    iterate 4 refine evR_p ?_
                    iterate 9 refine evR_g ?_
                    iterate 2 refine evR_p ?_
                    refine evR_e hK ?_; clear hK K
                    refine hK26 _ ?_
                    refine tr_ret ?_
                    (try simp only [thenE, inBlkE])
                    simp (maxSteps := 4000000) (disch := first | assumption | omega | (simp only [go_sem, *]; done) | (simp only [go_sem, *]; omega)) only [postA, postO, resV1, fzAll, go_sem, hq, Int.reduceToNat, Nat.reduceBEq, Nat.reduceEqDiff, Nat.reduceAdd, Nat.reduceMul, Nat.reduceLeDiff, Nat.reduceLT, Nat.reduceSub, ↓reduceIte, reduceCtorEq]
                    all_goals (simp_all)

section
attribute [local go_sem] encSol List.replicate_zero
set_option maxHeartbeats 8000000 in
theorem k6p (fr : Int) (rs : List P2) (os : List Of) (ap mu : Int) (hrl : rs.length ≤ maxLen) (hol : os.length ≤ maxLen) (hrk : ∀ p ∈ rs, okP2 p) (hok : ∀ o ∈ os, okO o) (hf : okI fr) (s la : Int) (hs : okI s) (hla : okI la) (h0 : 0 < (madeH fr rs os ap mu).rooms.length) : CallsA Tryd.prog 6 [.agg [.int .i64 fr, .sl 2 (encP2s rs), .sl 4 (encOfs os), .int .i64 ap, .int .i64 mu], .int .i64 s, .int .i64 la] (.bool true) := by
  have hto := fun (i : Nat) (hi : i < (madeH fr rs os ap mu).rooms.length) => made_to (os := os) (ap := ap) (mu := mu) hf hrk hi
  have hk9 := k9 fr rs os ap mu hrl hol hrk hf
  have hv := made_validH (ap := ap) (mu := mu) hf hrk hok
  generalize madeH fr rs os ap mu = M at hk9 hv h0 hto
  have hV := validH_all hv
  have hr : M.rooms.length ≤ maxLen := by have := hV.rl; unfold maxLen; omega
  have ho : M.offers.length ≤ maxLen := by have := hV.ol; unfold maxLen; omega
  have ha : M.apart.length ≤ maxLen := by have := hV.al; unfold maxLen; omega
  have hm : M.must.length ≤ maxLen := by have := hV.ml; unfold maxLen; omega
  have holM := hV.ol
  have hrlM := hV.rl
  have hpv := progH_valid hV
  have hto0 := hto 0 (by omega)
  have h0p : 0 < M.rooms.length := by omega
  have hr0 := hV.rm 0 h0p
  have hlr := pickW_rng la (n := (M.rooms.getD 0 sp0).to - (M.rooms.getD 0 sp0).fr) (by omega) (by omega) hla
  have hvS := late_valid hv h0p hlr
  have hVS := validH_all hvS
  have hrS : (lateH M (pickW la ((M.rooms.getD 0 sp0).to - (M.rooms.getD 0 sp0).fr))).rooms.length ≤ maxLen := by have := hVS.rl; unfold maxLen; omega
  have hoS : (lateH M (pickW la ((M.rooms.getD 0 sp0).to - (M.rooms.getD 0 sp0).fr))).offers.length ≤ maxLen := by have := hVS.ol; unfold maxLen; omega
  have haS : (lateH M (pickW la ((M.rooms.getD 0 sp0).to - (M.rooms.getD 0 sp0).fr))).apart.length ≤ maxLen := by have := hVS.al; unfold maxLen; omega
  have hmS : (lateH M (pickW la ((M.rooms.getD 0 sp0).to - (M.rooms.getD 0 sp0).fr))).must.length ≤ maxLen := by have := hVS.ml; unfold maxLen; omega
  have holS := hVS.ol
  have hrlS := hVS.rl
  obtain ⟨c, hcc, hcl⟩ := cho_lt holM hs
  have hlt := later_room holM hcl
  rw [← hcc] at hlt
  have hq6 := And.intro (late_fits hv h0p hlr) (fun hk => late_keeps hv h0p hlr hlt hk)
  have hlb := late_best hv h0p hlr
  have hwl1 : IntKind.i64.wrap ((M.rooms.getD 0 sp0).to - (M.rooms.getD 0 sp0).fr) = (M.rooms.getD 0 sp0).to - (M.rooms.getD 0 sp0).fr := w64 (by omega)
  have hset : (encSps M.rooms).set 0 [V.int .i64 ((M.rooms.getD 0 sp0).fr + (pickW la ((M.rooms.getD 0 sp0).to - (M.rooms.getD 0 sp0).fr))), V.int .i64 (M.rooms.getD 0 sp0).to] = encSps (lateL M.rooms (pickW la ((M.rooms.getD 0 sp0).to - (M.rooms.getD 0 sp0).fr))) := encSps_set M.rooms 0 ⟨(M.rooms.getD 0 sp0).fr + (pickW la ((M.rooms.getD 0 sp0).to - (M.rooms.getD 0 sp0).fr)), (M.rooms.getD 0 sp0).to⟩
  have hwl2 : IntKind.i64.wrap ((M.rooms.getD 0 sp0).fr + (pickW la ((M.rooms.getD 0 sp0).to - (M.rooms.getD 0 sp0).fr))) = (M.rooms.getD 0 sp0).fr + (pickW la ((M.rooms.getD 0 sp0).to - (M.rooms.getD 0 sp0).fr)) := w64 (by omega)
  have hq := And.intro hv (And.intro h0p (And.intro hwl1 (And.intro hwl2 (hset))))
  refine callsA_of_tr Tryd.func6 rfl (Nat.le_of_ble_eq_true rfl) ?_
  simp only [Tryd.results6, envOf, Nat.reduceAdd]
  refine tr_seq fun K1 hK1 => ?_
  refine tr_region [1, 2, 3] rfl rfl fun K hK => ?_
  iterate 2 refine evR_p ?_
  refine evR_e hK ?_; clear hK K
  refine hK1 _ ?_
  refine tr_seq fun K2 hK2 => ?_
  refine tr_seq fun K3 hK3 => ?_
  refine tr_region [1, 2, 3, 18] rfl rfl fun K hK => ?_
  refine evR_c (hc := k8) (k := ?_)
  refine evR_p ?_
  refine evR_e hK ?_; clear hK K
  refine hK3 _ ?_
  refine tr_condB (fun ht1 => ?_) (fun ht1 => ?_)
  · skip
    (first | (exfalso; omega) | (exfalso; simp_all; done) | (exfalso; obtain ⟨g1, g2⟩ := hq6; rcases ht5 with (h1 | ⟨h1, h2⟩) | ⟨h1, h2⟩; (rw [hvS] at h1; cases h1); (rw [g1 _ h1] at h2; cases h2); (rw [g2 h1] at h2; cases h2)) | skip)
    all_goals
      refine tr_seq fun K4 hK4 => ?_
      refine tr_region [6] rfl rfl fun K hK => ?_
      refine evR_p ?_
      refine evR_e hK ?_; clear hK K
      refine hK4 _ ?_
      refine tr_ret ?_
      (try simp only [thenE, inBlkE])
      simp (maxSteps := 4000000) (disch := first | assumption | omega | (simp only [go_sem, *]; done) | (simp only [go_sem, *]; omega)) only [postA, postO, resV1, fzAll, go_sem, hq, Int.reduceToNat, Nat.reduceBEq, Nat.reduceEqDiff, Nat.reduceAdd, Nat.reduceMul, Nat.reduceLeDiff, Nat.reduceLT, Nat.reduceSub, ↓reduceIte, reduceCtorEq]
      all_goals ((clear hq ht5; revert hlb; generalize bestH (lateH M (pickW la ((M.rooms.getD 0 sp0).to - (M.rooms.getD 0 sp0).fr))) = B9; intro hlb; cases hfl : B9.found with | false => simp [hfl] | true => (obtain ⟨e1, e2⟩ := hlb hfl; simp [hfl, e1, e2])))
  · skip
    (first | (exfalso; omega) | (exfalso; simp_all; done) | (exfalso; obtain ⟨g1, g2⟩ := hq6; rcases ht5 with (h1 | ⟨h1, h2⟩) | ⟨h1, h2⟩; (rw [hvS] at h1; cases h1); (rw [g1 _ h1] at h2; cases h2); (rw [g2 h1] at h2; cases h2)) | skip)
    all_goals
      refine tr_skip ?_
      (try simp only [thenE, inBlkE])
      refine hK2 _ ?_
      refine tr_seq fun K5 hK5 => ?_
      refine tr_region [1, 2, 7] rfl rfl fun K hK => ?_
      refine evR_p ?_
      refine evR_c (hc := hk9) (k := ?_)
      iterate 2 refine evR_p ?_
      refine evR_e hK ?_; clear hK K
      refine hK5 _ ?_
      refine tr_seq fun K6 hK6 => ?_
      refine tr_seq fun K7 hK7 => ?_
      refine tr_region [1, 2, 7, 24] rfl rfl fun K hK => ?_
      iterate 4 refine evR_p ?_
      refine evR_e hK ?_; clear hK K
      refine hK7 _ ?_
      refine tr_condB (fun ht2 => ?_) (fun ht2 => ?_)
      · skip
        (first | (exfalso; omega) | (exfalso; simp_all; done) | (exfalso; obtain ⟨g1, g2⟩ := hq6; rcases ht5 with (h1 | ⟨h1, h2⟩) | ⟨h1, h2⟩; (rw [hvS] at h1; cases h1); (rw [g1 _ h1] at h2; cases h2); (rw [g2 h1] at h2; cases h2)) | skip)
        all_goals
          refine tr_seq fun K8 hK8 => ?_
          refine tr_draw [] [6] mixed rfl (by kernel_rfl) rfl fun K hK => ?_
          refine evD_p ?_
          refine evD_c (hc := (k19 M hr ho ha hm)) (k := ?_)
          refine evD_p ?_
          refine evD_g ?_
          refine evD_gc (hc := (k12 M hr ho ha hm 0)) (k := ?_)
          iterate 5 refine evD_g ?_
          iterate 2 refine evD_p ?_
          refine evD_e hK ?_; clear hK K
          refine hK8 _ ?_
          refine tr_ret ?_
          (try simp only [thenE, inBlkE])
          simp (maxSteps := 4000000) (disch := first | assumption | omega | (simp only [go_sem, *]; done) | (simp only [go_sem, *]; omega)) only [postA, postO, resV1, fzAll, go_sem, hq, Int.reduceToNat, Nat.reduceBEq, Nat.reduceEqDiff, Nat.reduceAdd, Nat.reduceMul, Nat.reduceLeDiff, Nat.reduceLT, Nat.reduceSub, ↓reduceIte, reduceCtorEq]
          all_goals ((clear hq ht5; revert hlb; generalize bestH (lateH M (pickW la ((M.rooms.getD 0 sp0).to - (M.rooms.getD 0 sp0).fr))) = B9; intro hlb; cases hfl : B9.found with | false => simp [hfl] | true => (obtain ⟨e1, e2⟩ := hlb hfl; simp [hfl, e1, e2])))
      · skip
        (first | (exfalso; omega) | (exfalso; simp_all; done) | (exfalso; obtain ⟨g1, g2⟩ := hq6; rcases ht5 with (h1 | ⟨h1, h2⟩) | ⟨h1, h2⟩; (rw [hvS] at h1; cases h1); (rw [g1 _ h1] at h2; cases h2); (rw [g2 h1] at h2; cases h2)) | skip)
        all_goals
          refine tr_skip ?_
          (try simp only [thenE, inBlkE])
          refine hK6 _ ?_
          refine tr_seq fun K9 hK9 => ?_
          refine tr_region [1, 2, 7, 8] rfl rfl fun K hK => ?_
          iterate 3 refine evR_p ?_
          refine evR_e hK ?_; clear hK K
          refine hK9 _ ?_
          refine tr_seq fun K10 hK10 => ?_
          refine tr_region [1, 2, 7, 8] rfl rfl fun K hK => ?_
          refine evR_bo ?_
          iterate 5 refine evR_p ?_
          refine evR_e hK ?_; clear hK K
          refine hK10 _ ?_
          refine tr_seq fun K11 hK11 => ?_
          refine tr_draw [] [1, 7, 8] mixed rfl (by kernel_rfl) rfl fun K hK => ?_
          iterate 19 refine evD_p ?_
          refine evD_c (hc := (c12 la ((M.rooms.getD 0 sp0).to - (M.rooms.getD 0 sp0).fr) (by omega))) (k := ?_)
          iterate 4 refine evD_p ?_
          refine evD_e hK ?_; clear hK K
          refine hK11 _ ?_
          refine tr_seq fun K12 hK12 => ?_
          refine tr_fz [.own 4] (by simp (maxSteps := 4000000) (disch := first | assumption | omega | (simp only [go_sem, *]; done) | (simp only [go_sem, *]; omega)) only [go_sem, hq, Int.reduceToNat, Nat.reduceBEq, Nat.reduceEqDiff, Nat.reduceAdd, Nat.reduceMul, Nat.reduceLeDiff, Nat.reduceLT, Nat.reduceSub, ↓reduceIte, reduceCtorEq]; (try rfl)) ?_
          refine tr_region [7, 8, 9] rfl rfl fun K hK => ?_
          iterate 2 refine evR_p ?_
          refine evR_c (hc := (k11 M holM s)) (k := ?_)
          refine evR_p ?_
          refine evR_e hK ?_; clear hK K
          refine hK12 _ ?_
          refine tr_seq fun K13 hK13 => ?_
          refine tr_region [7, 8, 9, 10] rfl rfl fun K hK => ?_
          refine evR_p ?_
          refine evR_e hK ?_; clear hK K
          refine hK13 _ ?_
          refine tr_seq fun K14 hK14 => ?_
          refine tr_seq fun K15 hK15 => ?_
          refine tr_region [7, 8, 9, 10, 11] rfl rfl fun K hK => ?_
          refine evR_p ?_
          refine evR_e hK ?_; clear hK K
          refine hK15 _ ?_
          refine tr_block ?_
          -- loop 1: live [7, 8, 9, 10, 11]
          refine tr_loopW (fun m σ => ∃ i : Nat, i + m = M.offers.length ∧ σ = ⟨[(7, .ptr 1 0), (8, .ptr 2 0), (9, .int .i64 (choW M s)), (10, .int .i64 (aprN M i : Nat)), (11, .int .i64 (i : Nat))], [(2, .cells (encHr (lateH M (pickW la ((M.rooms.getD 0 sp0).to - (M.rooms.getD 0 sp0).fr))))), (1, .cells (encHr M)), (0, .cells [.int .i64 fr, .sl 2 (encP2s rs), .sl 4 (encOfs os), .int .i64 ap, .int .i64 mu])], 3⟩) (M.offers.length) ?_ ?_
          · exact ⟨_, Wk.cut 3 rfl, 0, by omega, rfl⟩
          · rintro m σ ⟨i, hi, rfl⟩ KL1 hKL1
            refine tr_seq fun K16 hK16 => ?_
            refine tr_seq fun K17 hK17 => ?_
            refine tr_region [7, 8, 9, 10, 11, 72] rfl rfl fun K hK => ?_
            iterate 5 refine evR_p ?_
            refine evR_e hK ?_; clear hK K
            refine hK17 _ ?_
            refine tr_condB (fun ht3 => ?_) (fun ht3 => ?_)
            · skip
              (first | (exfalso; omega) | (exfalso; simp_all; done) | (exfalso; obtain ⟨g1, g2⟩ := hq6; rcases ht5 with (h1 | ⟨h1, h2⟩) | ⟨h1, h2⟩; (rw [hvS] at h1; cases h1); (rw [g1 _ h1] at h2; cases h2); (rw [g2 h1] at h2; cases h2)) | skip)
              all_goals
                have hil : i < M.offers.length := by omega
                obtain ⟨ha1, ha2⟩ := apr_step (h := M) (n := i) (by omega)
                replace hq := And.intro hq (hil)
                refine tr_skip ?_
                (try simp only [thenE, inBlkE])
                refine hK16 _ ?_
                refine tr_seq fun K18 hK18 => ?_
                refine tr_block ?_
                refine tr_seq fun K19 hK19 => ?_
                refine tr_region [7, 8, 9, 10, 11, 81] rfl rfl fun K hK => ?_
                iterate 7 refine evR_p ?_
                refine evR_e hK ?_; clear hK K
                refine hK19 _ ?_
                refine tr_condB (fun ht4 => ?_) (fun ht4 => ?_)
                · skip
                  (first | (exfalso; omega) | (exfalso; simp_all; done) | (exfalso; obtain ⟨g1, g2⟩ := hq6; rcases ht5 with (h1 | ⟨h1, h2⟩) | ⟨h1, h2⟩; (rw [hvS] at h1; cases h1); (rw [g1 _ h1] at h2; cases h2); (rw [g2 h1] at h2; cases h2)) | skip)
                  all_goals
                    refine tr_region [7, 8, 9, 10, 11] rfl rfl fun K hK => ?_
                    iterate 5 refine evR_p ?_
                    refine evR_e hK ?_; clear hK K
                    refine hK18 _ ?_
                    refine tr_region [7, 8, 9, 10, 11] rfl rfl fun K hK => ?_
                    iterate 3 refine evR_p ?_
                    refine evR_e hK ?_; clear hK K
                    refine hKL1 _ ?_
                    first | exact ⟨m - 1, _, by omega, Wk.refl _, i + 1, by omega, by rw [w64 (x := (i : Int) + 1) (by omega), ha1 ht4]; rfl⟩ | exact ⟨m - 1, _, by omega, Wk.refl _, i + 1, by omega, by rw [w64 (x := (i : Int) + 1) (by omega), ha2 ht4]; rfl⟩
                · skip
                  (first | (exfalso; omega) | (exfalso; simp_all; done) | (exfalso; obtain ⟨g1, g2⟩ := hq6; rcases ht5 with (h1 | ⟨h1, h2⟩) | ⟨h1, h2⟩; (rw [hvS] at h1; cases h1); (rw [g1 _ h1] at h2; cases h2); (rw [g2 h1] at h2; cases h2)) | skip)
                  all_goals
                    refine tr_skip ?_
                    (try simp only [thenE, inBlkE])
                    refine hK18 _ ?_
                    refine tr_region [7, 8, 9, 10, 11] rfl rfl fun K hK => ?_
                    iterate 3 refine evR_p ?_
                    refine evR_e hK ?_; clear hK K
                    refine hKL1 _ ?_
                    first | exact ⟨m - 1, _, by omega, Wk.refl _, i + 1, by omega, by rw [w64 (x := (i : Int) + 1) (by omega), ha1 ht4]; rfl⟩ | exact ⟨m - 1, _, by omega, Wk.refl _, i + 1, by omega, by rw [w64 (x := (i : Int) + 1) (by omega), ha2 ht4]; rfl⟩
            · skip
              (first | (exfalso; omega) | (exfalso; simp_all; done) | (exfalso; obtain ⟨g1, g2⟩ := hq6; rcases ht5 with (h1 | ⟨h1, h2⟩) | ⟨h1, h2⟩; (rw [hvS] at h1; cases h1); (rw [g1 _ h1] at h2; cases h2); (rw [g2 h1] at h2; cases h2)) | skip)
              all_goals
                have hil : i = M.offers.length := by omega
                subst hil
                refine tr_exit ?_
                simp only [thenE, inBlkE, Nat.reduceEqDiff, ↓reduceIte]
                refine hK14 _ ?_
                refine tr_seq fun K20 hK20 => ?_
                refine tr_region [7, 8, 9, 12] rfl rfl fun K hK => ?_
                iterate 4 refine evR_p ?_
                refine evR_e hK ?_; clear hK K
                refine hK20 _ ?_
                refine tr_seq fun K21 hK21 => ?_
                refine tr_region [7, 8, 9, 12, 13, 14] rfl rfl fun K hK => ?_
                refine evR_p ?_
                refine evR_c (hc := (k10 M hv)) (k := ?_)
                iterate 6 refine evR_p ?_
                refine evR_e hK ?_; clear hK K
                refine hK21 _ ?_
                refine tr_seq fun K22 hK22 => ?_
                refine tr_region [7, 8, 9, 12, 13, 14, 15, 16] rfl rfl fun K hK => ?_
                refine evR_p ?_
                refine evR_c (hc := (k10 (lateH M (pickW la ((M.rooms.getD 0 sp0).to - (M.rooms.getD 0 sp0).fr))) hvS)) (k := ?_)
                iterate 6 refine evR_p ?_
                refine evR_e hK ?_; clear hK K
                refine hK22 _ ?_
                refine tr_seq fun K23 hK23 => ?_
                refine tr_seq fun K24 hK24 => ?_
                refine tr_region [13, 15, 131] rfl rfl fun K hK => ?_
                iterate 3 refine evR_p ?_
                iterate 2 refine evR_g ?_
                iterate 2 refine evR_p ?_
                refine evR_g ?_
                refine evR_gc (hc := (k19 (lateH M (pickW la ((M.rooms.getD 0 sp0).to - (M.rooms.getD 0 sp0).fr))) hrS hoS haS hmS)) (k := ?_)
                refine evR_g ?_
                iterate 2 refine evR_p ?_
                iterate 2 refine evR_g ?_
                refine evR_gc (hc := (k12 (lateH M (pickW la ((M.rooms.getD 0 sp0).to - (M.rooms.getD 0 sp0).fr))) hrS hoS haS hmS (choW M s))) (k := ?_)
                iterate 3 refine evR_g ?_
                refine evR_gc (hc := (k12 M hr ho ha hm (choW M s))) (k := ?_)
                iterate 2 refine evR_g ?_
                iterate 2 refine evR_p ?_
                iterate 2 refine evR_g ?_
                refine evR_gc (hc := (k12 M hr ho ha hm (bitsV .and .i64 (choW M s) ((aprN M M.offers.length : Nat) : Int)))) (k := ?_)
                iterate 3 refine evR_g ?_
                refine evR_gc (hc := (k12 (lateH M (pickW la ((M.rooms.getD 0 sp0).to - (M.rooms.getD 0 sp0).fr))) hrS hoS haS hmS (bitsV .and .i64 (choW M s) ((aprN M M.offers.length : Nat) : Int)))) (k := ?_)
                iterate 2 refine evR_g ?_
                refine evR_p ?_
                refine evR_e hK ?_; clear hK K
                refine hK24 _ ?_
                refine tr_condB (fun ht5 => ?_) (fun ht5 => ?_)
                · skip
                  (first | (exfalso; omega) | (exfalso; simp_all; done) | (exfalso; obtain ⟨g1, g2⟩ := hq6; rcases ht5 with (h1 | ⟨h1, h2⟩) | ⟨h1, h2⟩; (rw [hvS] at h1; cases h1); (rw [g1 _ h1] at h2; cases h2); (rw [g2 h1] at h2; cases h2)) | skip)
                  all_goals
                    refine tr_seq fun K25 hK25 => ?_
                    refine tr_region [6] rfl rfl fun K hK => ?_
                    refine evR_p ?_
                    refine evR_e hK ?_; clear hK K
                    refine hK25 _ ?_
                    refine tr_ret ?_
                    (try simp only [thenE, inBlkE])
                    simp (maxSteps := 4000000) (disch := first | assumption | omega | (simp only [go_sem, *]; done) | (simp only [go_sem, *]; omega)) only [postA, postO, resV1, fzAll, go_sem, hq, Int.reduceToNat, Nat.reduceBEq, Nat.reduceEqDiff, Nat.reduceAdd, Nat.reduceMul, Nat.reduceLeDiff, Nat.reduceLT, Nat.reduceSub, ↓reduceIte, reduceCtorEq]
                    all_goals ((clear hq ht5; revert hlb; generalize bestH (lateH M (pickW la ((M.rooms.getD 0 sp0).to - (M.rooms.getD 0 sp0).fr))) = B9; intro hlb; cases hfl : B9.found with | false => simp [hfl] | true => (obtain ⟨e1, e2⟩ := hlb hfl; simp [hfl, e1, e2])))
                · skip
                  (first | (exfalso; omega) | (exfalso; simp_all; done) | (exfalso; obtain ⟨g1, g2⟩ := hq6; rcases ht5 with (h1 | ⟨h1, h2⟩) | ⟨h1, h2⟩; (rw [hvS] at h1; cases h1); (rw [g1 _ h1] at h2; cases h2); (rw [g2 h1] at h2; cases h2)) | skip)
                  all_goals
                    refine tr_skip ?_
                    (try simp only [thenE, inBlkE])
                    refine hK23 _ ?_
                    refine tr_seq fun K26 hK26 => ?_
                    refine tr_region [6] rfl rfl fun K hK => ?_
                    iterate 4 refine evR_p ?_
                    iterate 9 refine evR_g ?_
                    iterate 2 refine evR_p ?_
                    refine evR_e hK ?_; clear hK K
                    refine hK26 _ ?_
                    refine tr_ret ?_
                    (try simp only [thenE, inBlkE])
                    simp (maxSteps := 4000000) (disch := first | assumption | omega | (simp only [go_sem, *]; done) | (simp only [go_sem, *]; omega)) only [postA, postO, resV1, fzAll, go_sem, hq, Int.reduceToNat, Nat.reduceBEq, Nat.reduceEqDiff, Nat.reduceAdd, Nat.reduceMul, Nat.reduceLeDiff, Nat.reduceLT, Nat.reduceSub, ↓reduceIte, reduceCtorEq]
                    all_goals ((clear hq ht5; revert hlb; generalize bestH (lateH M (pickW la ((M.rooms.getD 0 sp0).to - (M.rooms.getD 0 sp0).fr))) = B9; intro hlb; cases hfl : B9.found with | false => simp [hfl] | true => (obtain ⟨e1, e2⟩ := hlb hfl; simp [hfl, e1, e2])))
end
theorem k6 (fr : Int) (rs : List P2) (os : List Of) (ap mu : Int) (hrl : rs.length ≤ maxLen) (hol : os.length ≤ maxLen) (hrk : ∀ p ∈ rs, okP2 p) (hok : ∀ o ∈ os, okO o) (hf : okI fr) (s la : Int) (hs : okI s) (hla : okI la) : CallsA Tryd.prog 6 [.agg [.int .i64 fr, .sl 2 (encP2s rs), .sl 4 (encOfs os), .int .i64 ap, .int .i64 mu], .int .i64 s, .int .i64 la] (.bool true) := by
  by_cases h0 : (madeH fr rs os ap mu).rooms.length = 0
  · exact k6z fr rs os ap mu hrl hol hrk hok hf s la hs hla h0
  · exact k6p fr rs os ap mu hrl hol hrk hok hf s la hs hla (by omega)

end Go.Proofs.YtaaongcfeldcoaaDoor

