import Derived.Test.YtfamkbofdamkkaaKTb
import Derived.Test.YtfamkbofdamkkaaKTc
import Derived.Test.YtfamkbofdamkkaaKTe
import Derived.Test.YtfamkbofdamkkaaKTd
namespace Go.Proofs.Ytfamkbofdamkkaa
open Go.RowKit
set_option linter.unusedVariables false
set_option linter.unusedSimpArgs false
set_option maxRecDepth 100000
attribute [local go_sem] Nat.zero_add Nat.add_zero Nat.mul_one eq_self ne_eq not_true_eq_false not_false_eq_true decide_true decide_false decide_not Bool.false_eq_true List.filter_cons List.filter_nil true_and and_true beq_false beq_true Bool.not_true Bool.not_false Bool.and_true Bool.true_and Option.getD_some Option.getD_none imp_self implies_true Int.toNat_natCast List.cons_append List.nil_append List.map_cons List.map_nil List.length_cons List.length_nil List.getD_cons_zero List.getD_cons_succ List.drop_zero List.drop_succ_cons List.take_succ_cons List.take_zero
attribute [local go_sem] shL isSh Option.isNone_none Option.isNone_some Option.isSome_none lowN lowQ lowM isAl appOwn unw appF isE isO stpO notIn St.bare evO evDO isEff stp St.get St.slot St.put List.lookup un unL ofVal gof nth pickV pkB_false pkB_true binV unV loadV idxV fldV partV buildV fillV lenV sliV appV appR rowsV winV V.parts V.okp V.sc Mem.look_cons Mem.look_nil V.cl V.clL AObj.clo fzAll exps St.fz Mem.fz V.fz V.fzL AObj.fz Option.isSome_some Option.isSome_none Bool.or_true Bool.true_or Bool.or_false Bool.false_or false_and and_false false_or or_false arT_104 arT_121 arT_160 arT_161 arT_22 arT_23 arT_24 arT_25 arT_28 arT_29 arT_30 arT_40 arT_42 arT_52 arT_60 arT_65 arT_72 arT_73 arT_76 arT_9 arT_90 boolT_182 boolT_25 boolT_3 boolT_35 boolT_4 boolT_76 flatT_182 flatT_25 flatT_3 flatT_35 flatT_4 flatT_76 intT_133 intT_169 intT_171 intT_188 intT_3 intT_5 lay_104 lay_112 lay_138 lay_141 lay_153 lay_160 lay_161 lay_164 lay_188 lay_23 lay_24 lay_25 lay_27 lay_28 lay_3 lay_30 lay_34 lay_4 lay_49 lay_52 lay_54 lay_56 lay_65 lay_67 lay_73 lay_76 lay_90 lay_99 mapT_112 okF_10 okF_100 okF_101 okF_102 okF_103 okF_104 okF_105 okF_106 okF_107 okF_108 okF_109 okF_11 okF_110 okF_111 okF_112 okF_113 okF_114 okF_115 okF_116 okF_117 okF_118 okF_119 okF_12 okF_120 okF_121 okF_122 okF_123 okF_124 okF_125 okF_126 okF_127 okF_128 okF_129 okF_13 okF_130 okF_131 okF_132 okF_133 okF_134 okF_135 okF_136 okF_137 okF_138 okF_139 okF_14 okF_140 okF_141 okF_142 okF_143 okF_144 okF_145 okF_146 okF_147 okF_148 okF_149 okF_15 okF_150 okF_151 okF_152 okF_153 okF_154 okF_155 okF_156 okF_157 okF_158 okF_159 okF_16 okF_160 okF_161 okF_162 okF_163 okF_164 okF_165 okF_166 okF_167 okF_168 okF_169 okF_17 okF_170 okF_171 okF_172 okF_173 okF_174 okF_175 okF_176 okF_177 okF_18 okF_19 okF_20 okF_21 okF_22 okF_23 okF_24 okF_25 okF_26 okF_27 okF_28 okF_29 okF_3 okF_30 okF_31 okF_32 okF_33 okF_34 okF_35 okF_36 okF_37 okF_38 okF_39 okF_4 okF_40 okF_41 okF_42 okF_43 okF_44 okF_45 okF_46 okF_47 okF_48 okF_49 okF_5 okF_50 okF_51 okF_52 okF_53 okF_54 okF_55 okF_56 okF_57 okF_58 okF_59 okF_6 okF_60 okF_61 okF_62 okF_63 okF_64 okF_65 okF_66 okF_67 okF_68 okF_69 okF_7 okF_70 okF_71 okF_72 okF_73 okF_74 okF_75 okF_76 okF_77 okF_78 okF_79 okF_8 okF_80 okF_81 okF_82 okF_83 okF_84 okF_85 okF_86 okF_87 okF_88 okF_89 okF_9 okF_90 okF_91 okF_92 okF_93 okF_94 okF_95 okF_96 okF_97 okF_98 okF_99 plT_138 plT_153 plT_157 plT_161 plT_27 plT_34 plT_54 plT_56 plT_67 plT_76 plT_90 plT_99 slT_104 slT_121 slT_160 slT_161 slT_22 slT_23 slT_24 slT_25 slT_28 slT_29 slT_30 slT_40 slT_42 slT_52 slT_60 slT_65 slT_72 slT_73 slT_76 slT_90 stT_138_0 stT_138_1 stT_153_0 stT_157_0 stT_157_1 stT_157_2 stT_157_3 stT_27_0 stT_27_1 stT_27_2 stT_34_0 stT_34_1 stT_34_2 stT_34_3 stT_54_0 stT_54_1 stT_54_2 stT_54_3 stT_56_0 stT_56_1 stT_67_1 stT_67_4 stT_67_5 stT_99_0 stT_99_1 strT_160 strT_76 strT_9 zeroT_112 zeroT_138 zeroT_153 zeroT_157 zeroT_160 zeroT_161 zeroT_188 zeroT_27 zeroT_3 zeroT_30 zeroT_34 zeroT_4 zeroT_49 zeroT_54 zeroT_56 zeroT_65 zeroT_67 zeroT_76 zeroT_90 zeroT_99
attribute [local go_sem] List.getElem?_cons_zero List.getElem?_cons_succ List.zip_cons_cons List.zip_nil_left List.zip_nil_right Bool.false_and Bool.and_false List.length_append List.length_set List.length_replicate List.all_cons List.all_nil encI_length encI_getD encR_length encR_getD encRw encPg spl shp AObj.shp rowM isSt isRpS isRd csh AObj.csh forall_const imp_self
attribute [local go_sem] encSg encW encSgs_length encWs_length encSgs_getD encWs_getD lookV lkM putM
attribute [local simp] encI_length encR_length cellsI_length encSgs_length encWs_length
section
attribute [local go_sem] encSol2 cellsI_fzL List.replicate_zero encT_length cellsI_length cellsI_getD cellsI_sc cellsI_cl cellsI_winT cellsI_take encR_app List.nil_append
set_option maxHeartbeats 8000000 in
theorem k7 (a : Int) (x : List T3) (g : List Int) (ha : okI a) (hxl : x.length ≤ maxLen) (hx : ∀ t ∈ x, okT t) (hgl : g.length = 8) (hg : ∀ c ∈ g, okI c) (y : List T3) (hyl : y.length ≤ maxLen) (hy : ∀ t ∈ y, okT t) (b : Int) (hb : okI b) : CallsA Try.prog 7 [.int .i64 a, .sl 3 (encT x), .agg (cellsI g), .sl 3 (encT y), .int .i64 b] (.bool true) := by
 obtain ⟨M, hM⟩ : ∃ M, madeW a x g = M := ⟨_, rfl⟩
 have hv : validB M = true := hM ▸ made_valid ha hx hg
 have hr8 : M.rows.length ≤ 8 := hM ▸ made_rows a x g
 have hc11 := c11 a x g ha hxl hgl
 rw [hM] at hc11
 obtain ⟨q0, q1, q2, q3, q4, q5⟩ := validB_all hv
 have hpM := okPr_valid hv
 have hfM := okPf_prf hv
 have hc11y := c11 a y g ha hyl hgl
 have hvy : validB (madeW a y g) = true := made_valid ha hy hg
 have hry : (madeW a y g).rows.length ≤ 8 := made_rows a y g
 have hey : (madeW a y g).vars = M.vars := hM ▸ rfl
 have hgq : M.gain.length ≤ 8 := by have := hM ▸ (made_vars ha (x := x) (g := g)).2; omega
 obtain ⟨Y, hY⟩ : ∃ Y, madeW a y g = Y := ⟨_, rfl⟩
 rw [hY] at hc11y hvy hry hey
 have hvq : validB (moresP M Y.rows) = true := mores_valid hv (fun r hr => hey ▸ valid_right hvy hr) (by omega)
 have hpQ := okPr_valid hvq
 have hgs : (solveB M).1 = true → (solveB M).2.2 ≤ 1000 := fun hf => by have := made_gain ha hx hg (x := x) (hM ▸ hf); rw [hM] at this; exact this
 have hpk := pickW_range b (n := 1000) (by decide) (by decide) (by unfold okI at hb; omega)
 have hw1 : (solveW M).found = true → IntKind.i64.wrap ((solveW M).gain + pickW b 1000) = (solveW M).gain + pickW b 1000 := fun hf => by
  obtain ⟨s, -, -, -, h1, h2⟩ := solveB_gain hv hf
  have e2 : (solveW M).gain = (solveB M).2.2 := rfl
  rw [e2]
  exact w64 (by omega)
 have hT : (solveW M).found = true → boundsW M (prfS M) ((solveW M).gain + pickW b 1000) = true := fun hf => bounds_more (cmp_bound hv hf) (by show (solveB M).2.2 ≤ (solveB M).2.2 + _; omega) (by have := hgs hf; show (solveB M).2.2 + _ ≤ _; omega)
 have hF : (solveW M).found = false → refutesW (moresP M Y.rows) (prfS M) = true ∧ usedI (moresP M Y.rows) (prfS M) = usedI M (prfS M) := fun hf => ⟨mores_ref hv hvq hf, mores_used hv hvq hf⟩
 have hq := hgl
 refine callsA_of_tr Try.func7 rfl (Nat.le_of_ble_eq_true rfl) ?_
 simp only [Try.results7, envOf, Nat.reduceAdd]
 refine tr_seq fun K1 hK1 => ?_
 refine tr_region [0, 1, 3, 4, 7] rfl rfl fun K hK => ?_
 iterate 2 refine evR_p ?_
 refine evR_e hK ?_; clear hK K
 refine hK1 _ ?_
 refine tr_seq fun K2 hK2 => ?_
 refine tr_region [0, 1, 3, 4, 7, 11] rfl rfl fun K hK => ?_
 refine evR_c (hc := k16) (k := ?_)
 refine evR_p ?_
 refine evR_e hK ?_; clear hK K
 refine hK2 _ ?_
 refine tr_seq fun K3 hK3 => ?_
 refine tr_seq fun K4 hK4 => ?_
 refine tr_region [0, 1, 3, 4, 7, 11, 18] rfl rfl fun K hK => ?_
 iterate 2 refine evR_p ?_
 refine evR_e hK ?_; clear hK K
 refine hK4 _ ?_
 refine tr_condB (fun ht1 => ?_) (fun ht1 => ?_)
 ·
  skip
  (first | (exfalso; omega) | (exfalso; simp_all; done) | skip)
  all_goals
   refine tr_seq fun K5 hK5 => ?_
   refine tr_region [10] rfl rfl fun K hK => ?_
   refine evR_p ?_
   refine evR_e hK ?_; clear hK K
   refine hK5 _ ?_
   refine tr_ret ?_
   (try simp only [thenE, inBlkE])
   simp (maxSteps := 4000000) (disch := first | assumption | omega | (simp only [go_sem, *]; done) | (simp only [go_sem, *]; omega)) only [postA, postO, resV1, fzAll, go_sem, hq, Int.reduceToNat, Nat.reduceBEq, Nat.reduceEqDiff, Nat.reduceAdd, Nat.reduceMul, Nat.reduceLeDiff, Nat.reduceLT, Nat.reduceSub, ↓reduceIte, reduceCtorEq]
   all_goals (first | (obtain ⟨z1, z2⟩ := hF ht3; simp [z1, z2]; done) | (have z1 := hT ht3; have y1 := hw1 ht3; simp [z1, y1]; done))
 ·
  skip
  (first | (exfalso; omega) | (exfalso; simp_all; done) | skip)
  all_goals
   refine tr_skip ?_
   (try simp only [thenE, inBlkE])
   refine hK3 _ ?_
   refine tr_seq fun K6 hK6 => ?_
   refine tr_region [0, 3, 4, 7, 11, 12] rfl rfl fun K hK => ?_
   iterate 3 refine evR_p ?_
   refine evR_c (hc := hc11) (k := ?_)
   iterate 2 refine evR_p ?_
   refine evR_e hK ?_; clear hK K
   refine hK6 _ ?_
   refine tr_seq fun K7 hK7 => ?_
   refine tr_region [0, 3, 4, 7, 11, 12, 13, 14] rfl rfl fun K hK => ?_
   refine evR_p ?_
   refine evR_c (hc := (s36 hv)) (k := ?_)
   iterate 6 refine evR_p ?_
   refine evR_e hK ?_; clear hK K
   refine hK7 _ ?_
   refine tr_seq fun K8 hK8 => ?_
   refine tr_seq fun K9 hK9 => ?_
   refine tr_region [0, 3, 4, 7, 11, 12, 13, 29] rfl rfl fun K hK => ?_
   iterate 2 refine evR_p ?_
   refine evR_e hK ?_; clear hK K
   refine hK9 _ ?_
   refine tr_condB (fun ht2 => ?_) (fun ht2 => ?_)
   ·
    skip
    (first | (exfalso; omega) | (exfalso; simp_all; done) | skip)
    all_goals
     refine tr_seq fun K10 hK10 => ?_
     refine tr_region [10] rfl rfl fun K hK => ?_
     refine evR_p ?_
     refine evR_e hK ?_; clear hK K
     refine hK10 _ ?_
     refine tr_ret ?_
     (try simp only [thenE, inBlkE])
     simp (maxSteps := 4000000) (disch := first | assumption | omega | (simp only [go_sem, *]; done) | (simp only [go_sem, *]; omega)) only [postA, postO, resV1, fzAll, go_sem, hq, Int.reduceToNat, Nat.reduceBEq, Nat.reduceEqDiff, Nat.reduceAdd, Nat.reduceMul, Nat.reduceLeDiff, Nat.reduceLT, Nat.reduceSub, ↓reduceIte, reduceCtorEq]
     all_goals (first | (obtain ⟨z1, z2⟩ := hF ht3; simp [z1, z2]; done) | (have z1 := hT ht3; have y1 := hw1 ht3; simp [z1, y1]; done))
   ·
    skip
    (first | (exfalso; omega) | (exfalso; simp_all; done) | skip)
    all_goals
     refine tr_skip ?_
     (try simp only [thenE, inBlkE])
     refine hK8 _ ?_
     refine tr_seq fun K11 hK11 => ?_
     refine tr_seq fun K12 hK12 => ?_
     refine tr_region [0, 3, 4, 7, 11, 12, 13, 31] rfl rfl fun K hK => ?_
     iterate 2 refine evR_p ?_
     refine evR_e hK ?_; clear hK K
     refine hK12 _ ?_
     refine tr_condB (fun ht3 => ?_) (fun ht3 => ?_)
     ·
      skip
      (first | (exfalso; omega) | (exfalso; simp_all; done) | skip)
      all_goals
       refine tr_seq fun K13 hK13 => ?_
       refine tr_draw [] [10] mixed rfl (by kernel_rfl) rfl fun K hK => ?_
       iterate 2 refine evD_p ?_
       iterate 6 refine evD_g ?_
       refine evD_gc (hc := (c12 b 1000 (by decide))) (k := ?_)
       refine evD_g ?_
       refine evD_gc (hc := (s32 hpM hfM _)) (k := ?_)
       iterate 2 refine evD_p ?_
       refine evD_e hK ?_; clear hK K
       refine hK13 _ ?_
       refine tr_ret ?_
       (try simp only [thenE, inBlkE])
       simp (maxSteps := 4000000) (disch := first | assumption | omega | (simp only [go_sem, *]; done) | (simp only [go_sem, *]; omega)) only [postA, postO, resV1, fzAll, go_sem, hq, Int.reduceToNat, Nat.reduceBEq, Nat.reduceEqDiff, Nat.reduceAdd, Nat.reduceMul, Nat.reduceLeDiff, Nat.reduceLT, Nat.reduceSub, ↓reduceIte, reduceCtorEq]
       all_goals (first | (obtain ⟨z1, z2⟩ := hF ht3; simp [z1, z2]; done) | (have z1 := hT ht3; have y1 := hw1 ht3; simp [z1, y1]; done))
     ·
      skip
      (first | (exfalso; omega) | (exfalso; simp_all; done) | skip)
      all_goals
       refine tr_skip ?_
       (try simp only [thenE, inBlkE])
       refine hK11 _ ?_
       refine tr_seq fun K14 hK14 => ?_
       refine tr_region [0, 3, 7, 11, 12, 13, 15] rfl rfl fun K hK => ?_
       iterate 3 refine evR_p ?_
       refine evR_e hK ?_; clear hK K
       refine hK14 _ ?_
       refine tr_seq fun K15 hK15 => ?_
       refine tr_draw [3000004] [11, 12, 13, 15] mixed rfl (by kernel_rfl) rfl fun K hK => ?_
       refine evD_bo ?_
       iterate 6 refine evD_p ?_
       refine evD_c (hc := hc11y) (k := ?_)
       iterate 4 refine evD_p ?_
       refine evD_e hK ?_; clear hK K
       refine hK15 _ ?_
       refine tr_seq fun K16 hK16 => ?_
       refine tr_fz [.own 6] (by simp (maxSteps := 4000000) (disch := first | assumption | omega | (simp only [go_sem, *]; done) | (simp only [go_sem, *]; omega)) only [go_sem, hq, Int.reduceToNat, Nat.reduceBEq, Nat.reduceEqDiff, Nat.reduceAdd, Nat.reduceMul, Nat.reduceLeDiff, Nat.reduceLT, Nat.reduceSub, ↓reduceIte, reduceCtorEq]; (try rfl)) ?_
       refine tr_draw [] [10] mixed rfl (by kernel_rfl) rfl fun K hK => ?_
       iterate 2 refine evD_p ?_
       iterate 3 refine evD_g ?_
       refine evD_gc (hc := (s24 hpQ hfM)) (k := ?_)
       iterate 2 refine evD_p ?_
       iterate 3 refine evD_g ?_
       refine evD_gc (hc := (s29 hpQ hfM)) (k := ?_)
       iterate 3 refine evD_g ?_
       refine evD_gc (hc := (s29 hpM hfM)) (k := ?_)
       refine evD_gc (hc := (s28 _ _ _ _)) (k := ?_)
       iterate 2 refine evD_p ?_
       refine evD_e hK ?_; clear hK K
       refine hK16 _ ?_
       refine tr_ret ?_
       (try simp only [thenE, inBlkE])
       simp (maxSteps := 4000000) (disch := first | assumption | omega | (simp only [go_sem, *]; done) | (simp only [go_sem, *]; omega)) only [postA, postO, resV1, fzAll, go_sem, hq, Int.reduceToNat, Nat.reduceBEq, Nat.reduceEqDiff, Nat.reduceAdd, Nat.reduceMul, Nat.reduceLeDiff, Nat.reduceLT, Nat.reduceSub, ↓reduceIte, reduceCtorEq]
       all_goals (first | (obtain ⟨z1, z2⟩ := hF ht3; simp [z1, z2]; done) | (have z1 := hT ht3; have y1 := hw1 ht3; simp [z1, y1]; done))
end

end Go.Proofs.Ytfamkbofdamkkaa
