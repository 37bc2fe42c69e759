import Derived.Test.YtfamkbofdamkkaaKUb
import Derived.Test.YtfamkbofdamkkaaKUc
import Derived.Test.YtfamkbofdamkkaaKUe
import Derived.Test.YtfamkbofdamkkaaKUd
namespace Go.Proofs.Ytfamkbofdamkkaa
open Go.RowKit
set_option linter.unusedVariables false
set_option linter.unusedSimpArgs false
set_option maxRecDepth 100000
attribute [local go_sem] Nat.zero_add Nat.add_zero Nat.mul_one eq_self ne_eq not_true_eq_false not_false_eq_true decide_true decide_false decide_not Bool.false_eq_true List.filter_cons List.filter_nil true_and and_true beq_false beq_true Bool.not_true Bool.not_false Bool.and_true Bool.true_and Option.getD_some Option.getD_none imp_self implies_true Int.toNat_natCast List.cons_append List.nil_append List.map_cons List.map_nil List.length_cons List.length_nil List.getD_cons_zero List.getD_cons_succ List.drop_zero List.drop_succ_cons List.take_succ_cons List.take_zero
attribute [local go_sem] shL isSh Option.isNone_none Option.isNone_some Option.isSome_none lowN lowQ lowM isAl appOwn unw appF isE isO stpO notIn St.bare evO evDO isEff stp St.get St.slot St.put List.lookup un unL ofVal gof nth pickV pkB_false pkB_true binV unV loadV idxV fldV partV buildV fillV lenV sliV appV appR rowsV winV V.parts V.okp V.sc Mem.look_cons Mem.look_nil V.cl V.clL AObj.clo fzAll exps St.fz Mem.fz V.fz V.fzL AObj.fz Option.isSome_some Option.isSome_none Bool.or_true Bool.true_or Bool.or_false Bool.false_or false_and and_false false_or or_false arT_104 arT_121 arT_160 arT_161 arT_22 arT_23 arT_24 arT_25 arT_28 arT_29 arT_30 arT_40 arT_42 arT_52 arT_60 arT_65 arT_72 arT_73 arT_76 arT_9 arT_90 boolT_182 boolT_25 boolT_3 boolT_35 boolT_4 boolT_76 flatT_182 flatT_25 flatT_3 flatT_35 flatT_4 flatT_76 intT_133 intT_169 intT_171 intT_188 intT_3 intT_5 lay_104 lay_112 lay_138 lay_141 lay_153 lay_160 lay_161 lay_164 lay_188 lay_23 lay_24 lay_25 lay_27 lay_28 lay_3 lay_30 lay_34 lay_4 lay_49 lay_52 lay_54 lay_56 lay_65 lay_67 lay_73 lay_76 lay_90 lay_99 mapT_112 okF_10 okF_100 okF_101 okF_102 okF_103 okF_104 okF_105 okF_106 okF_107 okF_108 okF_109 okF_11 okF_110 okF_111 okF_112 okF_113 okF_114 okF_115 okF_116 okF_117 okF_118 okF_119 okF_12 okF_120 okF_121 okF_122 okF_123 okF_124 okF_125 okF_126 okF_127 okF_128 okF_129 okF_13 okF_130 okF_131 okF_132 okF_133 okF_134 okF_135 okF_136 okF_137 okF_138 okF_139 okF_14 okF_140 okF_141 okF_142 okF_143 okF_144 okF_145 okF_146 okF_147 okF_148 okF_149 okF_15 okF_150 okF_151 okF_152 okF_153 okF_154 okF_155 okF_156 okF_157 okF_158 okF_159 okF_16 okF_160 okF_161 okF_162 okF_163 okF_164 okF_165 okF_166 okF_167 okF_168 okF_169 okF_17 okF_170 okF_171 okF_172 okF_173 okF_174 okF_175 okF_176 okF_177 okF_18 okF_19 okF_20 okF_21 okF_22 okF_23 okF_24 okF_25 okF_26 okF_27 okF_28 okF_29 okF_3 okF_30 okF_31 okF_32 okF_33 okF_34 okF_35 okF_36 okF_37 okF_38 okF_39 okF_4 okF_40 okF_41 okF_42 okF_43 okF_44 okF_45 okF_46 okF_47 okF_48 okF_49 okF_5 okF_50 okF_51 okF_52 okF_53 okF_54 okF_55 okF_56 okF_57 okF_58 okF_59 okF_6 okF_60 okF_61 okF_62 okF_63 okF_64 okF_65 okF_66 okF_67 okF_68 okF_69 okF_7 okF_70 okF_71 okF_72 okF_73 okF_74 okF_75 okF_76 okF_77 okF_78 okF_79 okF_8 okF_80 okF_81 okF_82 okF_83 okF_84 okF_85 okF_86 okF_87 okF_88 okF_89 okF_9 okF_90 okF_91 okF_92 okF_93 okF_94 okF_95 okF_96 okF_97 okF_98 okF_99 plT_138 plT_153 plT_157 plT_161 plT_27 plT_34 plT_54 plT_56 plT_67 plT_76 plT_90 plT_99 slT_104 slT_121 slT_160 slT_161 slT_22 slT_23 slT_24 slT_25 slT_28 slT_29 slT_30 slT_40 slT_42 slT_52 slT_60 slT_65 slT_72 slT_73 slT_76 slT_90 stT_138_0 stT_138_1 stT_153_0 stT_157_0 stT_157_1 stT_157_2 stT_157_3 stT_27_0 stT_27_1 stT_27_2 stT_34_0 stT_34_1 stT_34_2 stT_34_3 stT_54_0 stT_54_1 stT_54_2 stT_54_3 stT_56_0 stT_56_1 stT_67_1 stT_67_4 stT_67_5 stT_99_0 stT_99_1 strT_160 strT_76 strT_9 zeroT_112 zeroT_138 zeroT_153 zeroT_157 zeroT_160 zeroT_161 zeroT_188 zeroT_27 zeroT_3 zeroT_30 zeroT_34 zeroT_4 zeroT_49 zeroT_54 zeroT_56 zeroT_65 zeroT_67 zeroT_76 zeroT_90 zeroT_99
attribute [local go_sem] List.getElem?_cons_zero List.getElem?_cons_succ List.zip_cons_cons List.zip_nil_left List.zip_nil_right Bool.false_and Bool.and_false List.length_append List.length_set List.length_replicate List.all_cons List.all_nil encI_length encI_getD encR_length encR_getD encRw encPg spl shp AObj.shp rowM isSt isRpS isRd csh AObj.csh forall_const imp_self
attribute [local go_sem] encSg encW encSgs_length encWs_length encSgs_getD encWs_getD lookV lkM putM
attribute [local simp] encI_length encR_length cellsI_length encSgs_length encWs_length
section
attribute [local go_sem] encWs_take encSgs_app1 List.replicate_succ List.replicate_zero List.set_cons_zero
set_option maxHeartbeats 4000000 in
theorem k21 (l : List Sg) (hl : l.length ≤ maxLen) (hw : ∀ s ∈ l, s.ws.length ≤ maxLen) : CallsA Try.prog 21 [.sl 4 (encSgs l)] (.sl 4 (encSgs (fewS l))) := by
 unfold maxLen at hl hw
 have hq : True := trivial
 refine callsA_of_tr Try.func21 rfl (Nat.le_of_ble_eq_true rfl) ?_
 simp only [Try.results21, envOf, Nat.reduceAdd]
 refine tr_seq fun K1 hK1 => ?_
 refine tr_region [0] rfl rfl fun K hK => ?_
 refine evR_p ?_
 refine evR_e hK ?_; clear hK K
 refine hK1 _ ?_
 refine tr_seq fun K2 hK2 => ?_
 refine tr_region [0, 3] rfl rfl fun K hK => ?_
 refine evR_p ?_
 refine evR_e hK ?_; clear hK K
 refine hK2 _ ?_
 refine tr_seq fun K3 hK3 => ?_
 refine tr_seq fun K4 hK4 => ?_
 refine tr_region [0, 3, 4] rfl rfl fun K hK => ?_
 refine evR_p ?_
 refine evR_e hK ?_; clear hK K
 refine hK4 _ ?_
 refine tr_block ?_
 -- loop 1: live [0, 3, 4]
 refine tr_loopW (fun m σ => ∃ i : Nat, i + m = min l.length 40 ∧ σ = ⟨[(0, .sl 4 (encSgs l)), (3, .own 0), (4, .int .i64 (i : Nat))], [(0, .row 54 4 (encSgs ((l.take i).map (cutS 9))))], 1⟩) (min l.length 40) ?_ ?_
 ·
  exact ⟨_, Wk.nilslot 54 4 3 rfl, 0, by omega, rfl⟩
 ·
  rintro m σ ⟨i, hi, rfl⟩ KL1 hKL1
  refine tr_seq fun K5 hK5 => ?_
  refine tr_seq fun K6 hK6 => ?_
  refine tr_region [0, 3, 4, 13] rfl rfl fun K hK => ?_
  iterate 5 refine evR_p ?_
  iterate 2 refine evR_g ?_
  refine evR_p ?_
  refine evR_e hK ?_; clear hK K
  refine hK6 _ ?_
  refine tr_condB (fun ht1 => ?_) (fun ht1 => ?_)
  ·
   skip
   have hil : i < l.length := by omega
   have hwi := hw _ (getD_mem (d := sg0) hil)
   have hmc := minV_range (l.getD i sg0).ws.length 9 (by omega)
   have htc : (l.getD i sg0).ws.take (minV ((l.getD i sg0).ws.length : Int) 9).toNat = (l.getD i sg0).ws.take 9 := take_min _ 9
   have hcl : ((l.take i).map (cutS 9)).length = i := by simp; omega
   replace hq := And.intro hq (And.intro hil (And.intro hmc (And.intro htc (hcl))))
   refine tr_skip ?_
   (try simp only [thenE, inBlkE])
   refine hK5 _ ?_
   refine tr_seq fun K7 hK7 => ?_
   refine tr_block ?_
   refine tr_seq fun K8 hK8 => ?_
   refine tr_region [0, 3, 4, 5] rfl rfl fun K hK => ?_
   iterate 6 refine evR_p ?_
   refine evR_e hK ?_; clear hK K
   refine hK8 _ ?_
   refine tr_seq fun K9 hK9 => ?_
   refine tr_region [0, 3, 4, 5] rfl rfl fun K hK => ?_
   iterate 9 refine evR_p ?_
   refine evR_e hK ?_; clear hK K
   refine hK9 _ ?_
   refine tr_region [0, 3, 4] rfl rfl fun K hK => ?_
   iterate 2 refine evR_p ?_
   refine evR_bs ?_
   iterate 2 refine evR_p ?_
   refine evR_e hK ?_; clear hK K
   refine hK7 _ ?_
   refine tr_region [0, 3, 4] rfl rfl fun K hK => ?_
   iterate 3 refine evR_p ?_
   refine evR_e hK ?_; clear hK K
   refine hKL1 _ ?_
   exact ⟨m - 1, _, by omega, (Wk.trans (Wk.ren 2 0 (Nat.le_of_ble_eq_true rfl) (Nat.le_of_ble_eq_true rfl) (by simp [St.noSt, St.ren, St.cutOK, St.cut, AObj.no, AObj.upto, AObj.ren, V.no, V.upto, V.ren, V.noL, V.uptoL, V.renL, cellsI_uptoL, encSg, encW])) (Wk.cut 1 (by simp [St.noSt, St.ren, St.cutOK, St.cut, AObj.no, AObj.upto, AObj.ren, V.no, V.upto, V.ren, V.noL, V.uptoL, V.renL, cellsI_uptoL, encSg, encW]))), i + 1, by omega, by rw [w64 (x := (i : Int) + 1) (by omega), cutS_succ 9 hil]; rfl⟩
  ·
   skip
   have hil : i = min l.length 40 := by omega
   subst hil
   refine tr_exit ?_
   simp only [thenE, inBlkE, Nat.reduceEqDiff, ↓reduceIte]
   refine hK3 _ ?_
   refine tr_seq fun K10 hK10 => ?_
   refine tr_region [2] rfl rfl fun K hK => ?_
   iterate 2 refine evR_p ?_
   refine evR_e hK ?_; clear hK K
   refine hK10 _ ?_
   refine tr_ret ?_
   (try simp only [thenE, inBlkE])
   simp (maxSteps := 4000000) (disch := first | assumption | omega | (simp only [go_sem, *]; done) | (simp only [go_sem, *]; omega)) only [postA, postO, resV1, fzAll, go_sem, hq, Int.reduceToNat, Nat.reduceBEq, Nat.reduceEqDiff, Nat.reduceAdd, Nat.reduceMul, Nat.reduceLeDiff, Nat.reduceLT, Nat.reduceSub, ↓reduceIte, reduceCtorEq]
   all_goals ((rw [fewS_min]; done))
end

section
attribute [local go_sem] encSol2 cellsI_fzL List.replicate_zero encT_length cellsI_length cellsI_getD cellsI_sc cellsI_cl cellsI_winT cellsI_take encSos_length encPfs_length encSos_getD encPfs_getD cellsI_getD cellsI_dropD cellsI_winT cellsI_take cellsI_fzL List.drop_zero List.replicate_succ List.set_cons_zero List.set_cons_succ
set_option maxHeartbeats 32000000 in
theorem k5 (a : Int) (x y : List T3) (g : List Int) (ha : okI a) (hxl : x.length ≤ maxLen) (hx : ∀ t ∈ x, okT t) (hyl : y.length ≤ maxLen) (hy : ∀ t ∈ y, okT t) (hgl : g.length = 8) (hg : ∀ c ∈ g, okI c) (za zb : List Int) (hza : za.length = 4) (hzb : zb.length = 4) (hka : ∀ c ∈ za, okI c) (hkb : ∀ c ∈ zb, okI c) (st : List Sg) (hst : st.length ≤ maxLen) (hsw : ∀ s ∈ st, s.ws.length ≤ maxLen) (n : Int) : CallsA Try.prog 5 [.int .i64 a, .sl 3 (encT x), .sl 3 (encT y), .agg (cellsI g), .agg (cellsI za ++ cellsI zb), .sl 4 (encSgs st), .int .i64 n] (.bool true) := by
 obtain ⟨M, hM⟩ : ∃ M, madeW a x g = M := ⟨_, rfl⟩
 have hv : validB M = true := hM ▸ made_valid ha hx hg
 have hr8 : M.rows.length ≤ 8 := hM ▸ made_rows a x g
 have hc11 := c11 a x g ha hxl hgl
 rw [hM] at hc11
 obtain ⟨q0, q1, q2, q3, q4, q5⟩ := validB_all hv
 have hpM := okPr_valid hv
 have hfM := okPf_prf hv
 have hc11y := c11 a y g ha hyl hgl
 have hvy : validB (madeW a y g) = true := made_valid ha hy hg
 obtain ⟨Y, hY⟩ : ∃ Y, madeW a y g = Y := ⟨_, rfl⟩
 rw [hY] at hc11y hvy
 obtain ⟨zq, hz1, hqz, hq1, hq2⟩ := zz_take hza hzb
 rw [hz1]
 have hch := (choice_max hv).2
 obtain ⟨PL, hPL⟩ : ∃ PL, [M, Y] = PL := ⟨_, rfl⟩
 have hPl : encSos [M, Y] = encSos PL := by rw [hPL]
 have hPn : PL.length = 2 := by rw [← hPL]; rfl
 have hPv : ∀ i, i < 2 → validB (PL.getD i pg0) = true := fun i hi => by
  rw [← hPL]
  match i, hi with
  | 0, _ => exact hv
  | 1, _ => exact hvy
 have hq := And.intro hgl (And.intro hqz (And.intro hq1 (And.intro hq2 (hPl))))
 refine callsA_of_tr Try.func5 rfl (Nat.le_of_ble_eq_true rfl) ?_
 simp only [Try.results5, envOf, Nat.reduceAdd]
 refine tr_seq fun K1 hK1 => ?_
 refine tr_region [0, 1, 2, 5, 6, 10, 11] rfl rfl fun K hK => ?_
 iterate 3 refine evR_p ?_
 refine evR_e hK ?_; clear hK K
 refine hK1 _ ?_
 refine tr_seq fun K2 hK2 => ?_
 refine tr_region [0, 1, 2, 5, 6, 10, 11, 15] rfl rfl fun K hK => ?_
 refine evR_c (hc := k16) (k := ?_)
 refine evR_p ?_
 refine evR_e hK ?_; clear hK K
 refine hK2 _ ?_
 refine tr_seq fun K3 hK3 => ?_
 refine tr_seq fun K4 hK4 => ?_
 refine tr_region [0, 1, 2, 5, 6, 10, 11, 15, 33] rfl rfl fun K hK => ?_
 iterate 2 refine evR_p ?_
 refine evR_e hK ?_; clear hK K
 refine hK4 _ ?_
 refine tr_condB (fun ht1 => ?_) (fun ht1 => ?_)
 ·
  skip
  (first | (exfalso; omega) | (exfalso; simp_all; done) | skip)
  all_goals
   refine tr_seq fun K5 hK5 => ?_
   refine tr_region [14] rfl rfl fun K hK => ?_
   refine evR_p ?_
   refine evR_e hK ?_; clear hK K
   refine hK5 _ ?_
   refine tr_ret ?_
   (try simp only [thenE, inBlkE])
   simp (maxSteps := 4000000) (disch := first | assumption | omega | (simp only [go_sem, *]; done) | (simp only [go_sem, *]; omega)) only [postA, postO, resV1, fzAll, go_sem, hq, Int.reduceToNat, Nat.reduceBEq, Nat.reduceEqDiff, Nat.reduceAdd, Nat.reduceMul, Nat.reduceLeDiff, Nat.reduceLT, Nat.reduceSub, ↓reduceIte, reduceCtorEq]
   all_goals (rfl)
 ·
  skip
  (first | (exfalso; omega) | (exfalso; simp_all; done) | skip)
  all_goals
   refine tr_skip ?_
   (try simp only [thenE, inBlkE])
   refine hK3 _ ?_
   refine tr_seq fun K6 hK6 => ?_
   refine tr_region [0, 2, 5, 6, 10, 11, 15, 16] rfl rfl fun K hK => ?_
   iterate 3 refine evR_p ?_
   refine evR_c (hc := hc11) (k := ?_)
   iterate 2 refine evR_p ?_
   refine evR_e hK ?_; clear hK K
   refine hK6 _ ?_
   refine tr_seq fun K7 hK7 => ?_
   refine tr_region [0, 2, 5, 6, 10, 11, 15, 16, 17, 18] rfl rfl fun K hK => ?_
   refine evR_p ?_
   refine evR_c (hc := (s18 hv)) (k := ?_)
   iterate 6 refine evR_p ?_
   refine evR_e hK ?_; clear hK K
   refine hK7 _ ?_
   refine tr_seq fun K8 hK8 => ?_
   refine tr_region [5, 6, 11, 15, 16, 17, 18, 19, 20] rfl rfl fun K hK => ?_
   iterate 3 refine evR_p ?_
   refine evR_c (hc := hc11y) (k := ?_)
   refine evR_c (hc := (s18 hvy)) (k := ?_)
   iterate 6 refine evR_p ?_
   refine evR_e hK ?_; clear hK K
   refine hK8 _ ?_
   refine tr_seq fun K9 hK9 => ?_
   refine tr_region [5, 6, 11, 15, 16, 17, 18, 19, 20, 21, 22] rfl rfl fun K hK => ?_
   refine evR_p ?_
   refine evR_c (hc := (c16 M hpM.r hpM.g hpM.c hv)) (k := ?_)
   iterate 5 refine evR_p ?_
   refine evR_e hK ?_; clear hK K
   refine hK9 _ ?_
   refine tr_seq fun K10 hK10 => ?_
   refine tr_seq fun K11 hK11 => ?_
   refine tr_region [5, 6, 11, 15, 16, 17, 19, 21, 65] rfl rfl fun K hK => ?_
   iterate 3 refine evR_p ?_
   iterate 2 refine evR_g ?_
   iterate 2 refine evR_p ?_
   iterate 2 refine evR_g ?_
   refine evR_p ?_
   refine evR_e hK ?_; clear hK K
   refine hK11 _ ?_
   refine tr_condB (fun ht2 => ?_) (fun ht2 => ?_)
   ·
    skip
    (first | (exfalso; omega) | (exfalso; simp_all; done) | skip)
    all_goals
     refine tr_seq fun K12 hK12 => ?_
     refine tr_region [14] rfl rfl fun K hK => ?_
     refine evR_p ?_
     refine evR_e hK ?_; clear hK K
     refine hK12 _ ?_
     refine tr_ret ?_
     (try simp only [thenE, inBlkE])
     simp (maxSteps := 4000000) (disch := first | assumption | omega | (simp only [go_sem, *]; done) | (simp only [go_sem, *]; omega)) only [postA, postO, resV1, fzAll, go_sem, hq, Int.reduceToNat, Nat.reduceBEq, Nat.reduceEqDiff, Nat.reduceAdd, Nat.reduceMul, Nat.reduceLeDiff, Nat.reduceLT, Nat.reduceSub, ↓reduceIte, reduceCtorEq]
     all_goals (rfl)
   ·
    skip
    (first | (exfalso; omega) | (exfalso; simp_all; done) | skip)
    all_goals
     refine tr_skip ?_
     (try simp only [thenE, inBlkE])
     refine hK10 _ ?_
     refine tr_seq fun K13 hK13 => ?_
     refine tr_seq fun K14 hK14 => ?_
     refine tr_region [5, 6, 11, 15, 16, 21, 68, 69, 70] rfl rfl fun K hK => ?_
     iterate 2 refine evR_p ?_
     refine evR_bs ?_
     iterate 2 refine evR_p ?_
     refine evR_e hK ?_; clear hK K
     refine hK14 _ ?_
     refine tr_block ?_
     -- loop 1: live [5, 6, 11, 15, 16, 21, 68, 69, 70]
     refine tr_loopW (fun m σ => ∃ i : Nat, i + m = 2 ∧ σ = ⟨[(5, .sl 4 (encSgs st)), (6, .int .i64 n), (11, .ptr 1 0), (15, .bool true), (16, .ptr 2 0), (21, .sl 1 (encI (choiceL M))), (68, .sl 4 (encSos PL)), (69, .int .i64 2), (70, .int .i64 (i : Nat))], [(2, .cells [.int .i64 M.vars, .sl 6 (encR M.rows), .sl 1 (encI M.gain)]), (1, .cells (cellsI zq))], 3⟩) (2) ?_ ?_
     ·
      exact ⟨_, Wk.trans (Wk.drop (fun k => k == 1 || k == 2)) (Wk.cut 3 (by simp [St.cutOK, AObj.upto, V.upto, V.uptoL, cellsI_uptoL, List.all_cons, List.all_nil, List.filter_cons, List.filter_nil, Nat.blt_eq, Nat.reduceLT, Nat.lt_irrefl, decide_true, decide_false, Bool.and_self, Bool.and_true, Bool.true_and, if_true, if_false, ↓reduceIte, Bool.false_eq_true, encSg, encW, cellsI_uptoL])), 0, by omega, by first | rfl | (rw [← hPl]; rfl)⟩
     ·
      rintro m σ ⟨i, hi, rfl⟩ KL1 hKL1
      refine tr_seq fun K15 hK15 => ?_
      refine tr_region [5, 6, 11, 15, 16, 21, 68, 69, 70, 71] rfl rfl fun K hK => ?_
      refine evR_p ?_
      refine evR_e hK ?_; clear hK K
      refine hK15 _ ?_
      refine tr_seq fun K16 hK16 => ?_
      refine tr_condB (fun ht3 => ?_) (fun ht3 => ?_)
      ·
       skip
       (first | (exfalso; omega) | (exfalso; simp_all; done) | skip)
       all_goals
        have hil : i < PL.length := by omega
        have hvP := hPv i (by omega)
        obtain ⟨P, hP⟩ : ∃ P, PL.getD i pg0 = P := ⟨_, rfl⟩
        rw [hP] at hvP
        have hpl := prf_len hvP
        have hp0 := prf_ws P
        have hp1 : (prfS P).length ≤ 100000 := by omega
        have hp2 : ∀ s ∈ prfS P, s.ws.length ≤ 100000 := fun s hs => by have := hp0 s hs; omega
        have hp3 : (bentW (prfS P) za).length ≤ 100000 := by have := bentW_len (l := prfS P) (z := za); omega
        have hp4 : ∀ s ∈ bentW (prfS P) za, s.ws.length ≤ 100000 := fun s hs => by have := bentW_ws (z := za) hp0 s hs; omega
        have hQ0 := pfs_ok hvP za zb st
        obtain ⟨QL, hQL⟩ : ∃ QL, [prfS P, bentW (prfS P) za, bentW (bentW (prfS P) za) zb, fewS st] = QL := ⟨_, rfl⟩
        have hQl : encPfs [prfS P, bentW (prfS P) za, bentW (bentW (prfS P) za) zb, fewS st] = encPfs QL := by rw [hQL]
        have hQn : QL.length = 4 := by rw [← hQL]; rfl
        rw [hQL] at hQ0
        replace hq := And.intro hq (And.intro hil (hP))
        refine tr_skip ?_
        (try simp only [thenE, inBlkE])
        refine hK16 _ ?_
        refine tr_seq fun K17 hK17 => ?_
        refine tr_block ?_
        refine tr_seq fun K18 hK18 => ?_
        refine tr_region [5, 6, 11, 15, 16, 21, 24, 68, 69, 70] rfl rfl fun K hK => ?_
        iterate 4 refine evR_p ?_
        refine evR_e hK ?_; clear hK K
        refine hK18 _ ?_
        refine tr_seq fun K19 hK19 => ?_
        refine tr_region [5, 6, 11, 15, 16, 21, 24, 25, 68, 69, 70] rfl rfl fun K hK => ?_
        iterate 4 refine evR_p ?_
        refine evR_c (hc := (k19 (prfS P) hp1 hp2 za hza hka)) (k := ?_)
        refine evR_p ?_
        refine evR_e hK ?_; clear hK K
        refine hK19 _ ?_
        refine tr_seq fun K20 hK20 => ?_
        refine tr_draw [88] [5, 6, 11, 15, 16, 21, 24, 68, 69, 70, 88, 89, 90] mixed rfl (by kernel_rfl) rfl fun K hK => ?_
        iterate 6 refine evD_p ?_
        refine evD_c (hc := (k19 (bentW (prfS P) za) hp3 hp4 zb hzb hkb)) (k := ?_)
        refine evD_p ?_
        refine evD_c (hc := (k21 st hst hsw)) (k := ?_)
        refine evD_bs ?_
        iterate 2 refine evD_p ?_
        refine evD_e hK ?_; clear hK K
        refine hK20 _ ?_
        refine tr_block ?_
        -- loop 2: live [5, 6, 11, 15, 16, 21, 24, 68, 69, 70, 88, 89, 90]
        refine tr_loopW (fun m σ => ∃ j : Nat, j + m = 4 ∧ σ = ⟨[(5, .sl 4 (encSgs st)), (6, .int .i64 n), (11, .ptr 1 0), (15, .bool true), (16, .ptr 2 0), (21, .sl 1 (encI (choiceL M))), (24, .ptr 3 0), (68, .sl 4 (encSos PL)), (69, .int .i64 2), (70, .int .i64 (i : Nat)), (88, .sl 1 (encPfs QL)), (89, .int .i64 4), (90, .int .i64 (j : Nat))], [(3, .cells [.bool (solveW P).found, .int .i64 (solveW P).set, .int .i64 (solveW P).gain, .sl 4 (encSgs (prfS P))]), (2, .cells [.int .i64 M.vars, .sl 6 (encR M.rows), .sl 1 (encI M.gain)]), (1, .cells (cellsI zq))], 4⟩) (4) ?_ ?_
        ·
         exact ⟨_, Wk.refl _, 0, by omega, by first | rfl | (rw [← hQl]; rfl)⟩
        ·
         rintro m2 σ ⟨j, hj, rfl⟩ KL2 hKL2
         refine tr_seq fun K21 hK21 => ?_
         refine tr_region [5, 6, 11, 15, 16, 21, 24, 68, 69, 70, 88, 89, 90, 91] rfl rfl fun K hK => ?_
         refine evR_p ?_
         refine evR_e hK ?_; clear hK K
         refine hK21 _ ?_
         refine tr_seq fun K22 hK22 => ?_
         refine tr_condB (fun ht4 => ?_) (fun ht4 => ?_)
         ·
          skip
          (first | (exfalso; omega) | (exfalso; simp_all; done) | skip)
          all_goals
           have hjl : j < QL.length := by omega
           have hfQ := hQ0 j (by omega)
           obtain ⟨Q, hQ⟩ : ∃ Q, QL.getD j [] = Q := ⟨_, rfl⟩
           rw [hQ] at hfQ
           have hnr : ¬ (refutesW M Q = true ∧ 0 < ((choiceL M).length : Int)) := fun h => by have := sound_ref hv h.1; omega
           obtain ⟨ML, hML⟩ : ∃ ML, [(solveW P).gain, IntKind.i64.wrap (IntKind.i64.wrap ((solveW P).gain + pickW n 20) - 10)] = ML := ⟨_, rfl⟩
           have hMn : ML.length = 2 := by rw [← hML]; rfl
           have hMl : encI [(solveW P).gain, IntKind.i64.wrap (IntKind.i64.wrap ((solveW P).gain + pickW n 20) - 10)] = encI ML := by rw [hML]
           replace hq := And.intro hq (And.intro hjl (hQ))
           refine tr_skip ?_
           (try simp only [thenE, inBlkE])
           refine hK22 _ ?_
           refine tr_seq fun K23 hK23 => ?_
           refine tr_block ?_
           refine tr_seq fun K24 hK24 => ?_
           refine tr_region [5, 6, 11, 15, 16, 21, 24, 27, 68, 69, 70, 88, 89, 90] rfl rfl fun K hK => ?_
           iterate 3 refine evR_p ?_
           refine evR_e hK ?_; clear hK K
           refine hK24 _ ?_
           refine tr_seq fun K25 hK25 => ?_
           refine tr_seq fun K26 hK26 => ?_
           refine tr_region [5, 6, 11, 15, 16, 21, 24, 27, 68, 69, 70, 88, 89, 90, 101] rfl rfl fun K hK => ?_
           iterate 2 refine evR_p ?_
           refine evR_c (hc := (s24 hpM hfQ)) (k := ?_)
           refine evR_p ?_
           iterate 3 refine evR_g ?_
           refine evR_p ?_
           refine evR_e hK ?_; clear hK K
           refine hK26 _ ?_
           refine tr_condB (fun ht5 => ?_) (fun ht5 => ?_)
           ·
            skip
            (first | (exfalso; omega) | (exfalso; simp_all; done) | skip)
            all_goals
             refine tr_seq fun K27 hK27 => ?_
             refine tr_region [14] rfl rfl fun K hK => ?_
             refine evR_p ?_
             refine evR_e hK ?_; clear hK K
             refine hK27 _ ?_
             refine tr_ret ?_
             (try simp only [thenE, inBlkE])
             simp (maxSteps := 4000000) (disch := first | assumption | omega | (simp only [go_sem, *]; done) | (simp only [go_sem, *]; omega)) only [postA, postO, resV1, fzAll, go_sem, hq, Int.reduceToNat, Nat.reduceBEq, Nat.reduceEqDiff, Nat.reduceAdd, Nat.reduceMul, Nat.reduceLeDiff, Nat.reduceLT, Nat.reduceSub, ↓reduceIte, reduceCtorEq]
             all_goals (rfl)
           ·
            skip
            (first | (exfalso; omega) | (exfalso; simp_all; done) | skip)
            all_goals
             refine tr_skip ?_
             (try simp only [thenE, inBlkE])
             refine hK25 _ ?_
             refine tr_seq fun K28 hK28 => ?_
             refine tr_draw [110] [5, 6, 11, 15, 16, 21, 24, 27, 68, 69, 70, 88, 89, 90, 110, 111, 112] mixed rfl (by kernel_rfl) rfl fun K hK => ?_
             iterate 5 refine evD_p ?_
             refine evD_c (hc := (c12 n 20 (by decide))) (k := ?_)
             iterate 2 refine evD_p ?_
             refine evD_bs ?_
             iterate 2 refine evD_p ?_
             refine evD_e hK ?_; clear hK K
             refine hK28 _ ?_
             refine tr_block ?_
             -- loop 3: live [5, 6, 11, 15, 16, 21, 24, 27, 68, 69, 70, 88, 89, 90, 110, 111, 112]
             refine tr_loopW (fun m σ => ∃ k : Nat, k + m = 2 ∧ σ = ⟨[(5, .sl 4 (encSgs st)), (6, .int .i64 n), (11, .ptr 1 0), (15, .bool true), (16, .ptr 2 0), (21, .sl 1 (encI (choiceL M))), (24, .ptr 3 0), (27, .sl 4 (encSgs Q)), (68, .sl 4 (encSos PL)), (69, .int .i64 2), (70, .int .i64 (i : Nat)), (88, .sl 1 (encPfs QL)), (89, .int .i64 4), (90, .int .i64 (j : Nat)), (110, .sl 1 (encI ML)), (111, .int .i64 2), (112, .int .i64 (k : Nat))], [(3, .cells [.bool (solveW P).found, .int .i64 (solveW P).set, .int .i64 (solveW P).gain, .sl 4 (encSgs (prfS P))]), (2, .cells [.int .i64 M.vars, .sl 6 (encR M.rows), .sl 1 (encI M.gain)]), (1, .cells (cellsI zq))], 4⟩) (2) ?_ ?_
             ·
              exact ⟨_, Wk.refl _, 0, by omega, by first | rfl | (rw [← hMl]; rfl)⟩
             ·
              rintro m3 σ ⟨k, hk, rfl⟩ KL3 hKL3
              refine tr_seq fun K29 hK29 => ?_
              refine tr_region [5, 6, 11, 15, 16, 21, 24, 27, 68, 69, 70, 88, 89, 90, 110, 111, 112, 113] rfl rfl fun K hK => ?_
              refine evR_p ?_
              refine evR_e hK ?_; clear hK K
              refine hK29 _ ?_
              refine tr_seq fun K30 hK30 => ?_
              refine tr_condB (fun ht6 => ?_) (fun ht6 => ?_)
              ·
               skip
               (first | (exfalso; omega) | (exfalso; simp_all; done) | skip)
               all_goals
                have hkl : k < ML.length := by omega
                obtain ⟨mm, hmm⟩ : ∃ mm, ML.getD k 0 = mm := ⟨_, rfl⟩
                have hbd := fun h => sound_bnd hv (l := Q) (g := mm) h
                replace hq := And.intro hq (And.intro hkl (hmm))
                refine tr_skip ?_
                (try simp only [thenE, inBlkE])
                refine hK30 _ ?_
                refine tr_seq fun K31 hK31 => ?_
                refine tr_block ?_
                refine tr_seq fun K32 hK32 => ?_
                refine tr_region [5, 6, 11, 15, 16, 21, 24, 27, 29, 68, 69, 70, 88, 89, 90, 110, 111, 112] rfl rfl fun K hK => ?_
                iterate 3 refine evR_p ?_
                refine evR_e hK ?_; clear hK K
                refine hK32 _ ?_
                refine tr_seq fun K33 hK33 => ?_
                refine tr_seq fun K34 hK34 => ?_
                refine tr_region [5, 6, 11, 15, 16, 21, 24, 27, 29, 68, 69, 70, 88, 89, 90, 110, 111, 112, 120] rfl rfl fun K hK => ?_
                iterate 3 refine evR_p ?_
                refine evR_c (hc := (s32 hpM hfQ _)) (k := ?_)
                refine evR_p ?_
                refine evR_e hK ?_; clear hK K
                refine hK34 _ ?_
                refine tr_condB (fun ht7 => ?_) (fun ht7 => ?_)
                ·
                 skip
                 (first | (exfalso; omega) | (exfalso; simp_all; done) | skip)
                 all_goals
                  refine tr_exit ?_
                  simp only [thenE, inBlkE, Nat.reduceEqDiff, ↓reduceIte]
                  refine hK31 _ ?_
                  refine tr_region [5, 6, 11, 15, 16, 21, 24, 27, 68, 69, 70, 88, 89, 90, 110, 111, 112] rfl rfl fun K hK => ?_
                  iterate 2 refine evR_p ?_
                  refine evR_e hK ?_; clear hK K
                  refine hKL3 _ ?_
                  exact ⟨m3 - 1, _, by omega, Wk.refl _, k + 1, by omega, by rw [w64 (x := (k : Int) + 1) (by omega)]; rfl⟩
                ·
                 skip
                 (first | (exfalso; omega) | (exfalso; simp_all; done) | skip)
                 all_goals
                  refine tr_skip ?_
                  (try simp only [thenE, inBlkE])
                  refine hK33 _ ?_
                  refine tr_seq fun K35 hK35 => ?_
                  refine tr_region [5, 6, 11, 15, 16, 21, 24, 27, 29, 30, 68, 69, 70, 88, 89, 90, 110, 111, 112] rfl rfl fun K hK => ?_
                  refine evR_p ?_
                  refine evR_e hK ?_; clear hK K
                  refine hK35 _ ?_
                  refine tr_block ?_
                  -- loop 4: live [5, 6, 11, 15, 16, 21, 24, 27, 29, 30, 68, 69, 70, 88, 89, 90, 110, 111, 112]
                  refine tr_loopW (fun m σ => ∃ c : Nat, c + m = (choiceL M).length ∧ σ = ⟨[(5, .sl 4 (encSgs st)), (6, .int .i64 n), (11, .ptr 1 0), (15, .bool true), (16, .ptr 2 0), (21, .sl 1 (encI (choiceL M))), (24, .ptr 3 0), (27, .sl 4 (encSgs Q)), (29, .int .i64 mm), (30, .int .i64 (c : Nat)), (68, .sl 4 (encSos PL)), (69, .int .i64 2), (70, .int .i64 (i : Nat)), (88, .sl 1 (encPfs QL)), (89, .int .i64 4), (90, .int .i64 (j : Nat)), (110, .sl 1 (encI ML)), (111, .int .i64 2), (112, .int .i64 (k : Nat))], [(3, .cells [.bool (solveW P).found, .int .i64 (solveW P).set, .int .i64 (solveW P).gain, .sl 4 (encSgs (prfS P))]), (2, .cells [.int .i64 M.vars, .sl 6 (encR M.rows), .sl 1 (encI M.gain)]), (1, .cells (cellsI zq))], 4⟩) ((choiceL M).length) ?_ ?_
                  ·
                   exact ⟨_, Wk.refl _, 0, by omega, rfl⟩
                  ·
                   rintro m4 σ ⟨c, hc, rfl⟩ KL4 hKL4
                   refine tr_seq fun K36 hK36 => ?_
                   refine tr_seq fun K37 hK37 => ?_
                   refine tr_region [5, 6, 11, 15, 16, 21, 24, 27, 29, 30, 68, 69, 70, 88, 89, 90, 110, 111, 112, 124] rfl rfl fun K hK => ?_
                   iterate 4 refine evR_p ?_
                   refine evR_e hK ?_; clear hK K
                   refine hK37 _ ?_
                   refine tr_condB (fun ht8 => ?_) (fun ht8 => ?_)
                   ·
                    skip
                    (first | (exfalso; omega) | (exfalso; simp_all; done) | skip)
                    all_goals
                     have hcl : c < (choiceL M).length := by omega
                     have hgm := hbd (by first | exact ht7 | (simpa using ht7)) _ (getD_mem (d := 0) hcl)
                     replace hq := And.intro hq (hcl)
                     refine tr_skip ?_
                     (try simp only [thenE, inBlkE])
                     refine hK36 _ ?_
                     refine tr_seq fun K38 hK38 => ?_
                     refine tr_block ?_
                     refine tr_seq fun K39 hK39 => ?_
                     refine tr_draw [] [5, 6, 11, 15, 16, 21, 24, 27, 29, 30, 68, 69, 70, 88, 89, 90, 110, 111, 112, 134] mixed rfl (by kernel_rfl) rfl fun K hK => ?_
                     iterate 5 refine evD_p ?_
                     refine evD_c (hc := (c24 M hpM.r hpM.g hpM.c _)) (k := ?_)
                     iterate 2 refine evD_p ?_
                     refine evD_e hK ?_; clear hK K
                     refine hK39 _ ?_
                     refine tr_condB (fun ht9 => ?_) (fun ht9 => ?_)
                     ·
                      skip
                      (first | (exfalso; omega) | (exfalso; simp_all; done) | skip)
                      all_goals
                       refine tr_seq fun K40 hK40 => ?_
                       refine tr_region [14] rfl rfl fun K hK => ?_
                       refine evR_p ?_
                       refine evR_e hK ?_; clear hK K
                       refine hK40 _ ?_
                       refine tr_ret ?_
                       (try simp only [thenE, inBlkE])
                       simp (maxSteps := 4000000) (disch := first | assumption | omega | (simp only [go_sem, *]; done) | (simp only [go_sem, *]; omega)) only [postA, postO, resV1, fzAll, go_sem, hq, Int.reduceToNat, Nat.reduceBEq, Nat.reduceEqDiff, Nat.reduceAdd, Nat.reduceMul, Nat.reduceLeDiff, Nat.reduceLT, Nat.reduceSub, ↓reduceIte, reduceCtorEq]
                       all_goals (rfl)
                     ·
                      skip
                      (first | (exfalso; omega) | (exfalso; simp_all; done) | skip)
                      all_goals
                       refine tr_skip ?_
                       (try simp only [thenE, inBlkE])
                       refine hK38 _ ?_
                       refine tr_region [5, 6, 11, 15, 16, 21, 24, 27, 29, 30, 68, 69, 70, 88, 89, 90, 110, 111, 112] rfl rfl fun K hK => ?_
                       iterate 3 refine evR_p ?_
                       refine evR_e hK ?_; clear hK K
                       refine hKL4 _ ?_
                       exact ⟨m4 - 1, _, by omega, Wk.refl _, c + 1, by omega, by rw [w64 (x := (c : Int) + 1) (by omega)]; rfl⟩
                   ·
                    skip
                    (first | (exfalso; omega) | (exfalso; simp_all; done) | skip)
                    all_goals
                     have hcl : c = (choiceL M).length := by omega
                     subst hcl
                     refine tr_exit ?_
                     simp only [thenE, inBlkE, Nat.reduceEqDiff, ↓reduceIte]
                     refine hK31 _ ?_
                     refine tr_region [5, 6, 11, 15, 16, 21, 24, 27, 68, 69, 70, 88, 89, 90, 110, 111, 112] rfl rfl fun K hK => ?_
                     iterate 2 refine evR_p ?_
                     refine evR_e hK ?_; clear hK K
                     refine hKL3 _ ?_
                     exact ⟨m3 - 1, _, by omega, Wk.refl _, k + 1, by omega, by rw [w64 (x := (k : Int) + 1) (by omega)]; rfl⟩
              ·
               skip
               (first | (exfalso; omega) | (exfalso; simp_all; done) | skip)
               all_goals
                have hkl : k = 2 := by omega
                subst hkl
                refine tr_exit ?_
                simp only [thenE, inBlkE, Nat.reduceEqDiff, ↓reduceIte]
                refine hK23 _ ?_
                refine tr_region [5, 6, 11, 15, 16, 21, 24, 68, 69, 70, 88, 89, 90] rfl rfl fun K hK => ?_
                iterate 2 refine evR_p ?_
                refine evR_e hK ?_; clear hK K
                refine hKL2 _ ?_
                exact ⟨m2 - 1, _, by omega, Wk.refl _, j + 1, by omega, by rw [w64 (x := (j : Int) + 1) (by omega)]; rfl⟩
         ·
          skip
          (first | (exfalso; omega) | (exfalso; simp_all; done) | skip)
          all_goals
           have hjl : j = 4 := by omega
           subst hjl
           refine tr_exit ?_
           simp only [thenE, inBlkE, Nat.reduceEqDiff, ↓reduceIte]
           refine hK17 _ ?_
           refine tr_region [5, 6, 11, 15, 16, 21, 68, 69, 70] rfl rfl fun K hK => ?_
           iterate 2 refine evR_p ?_
           refine evR_e hK ?_; clear hK K
           refine hKL1 _ ?_
           exact ⟨m - 1, _, by omega, Wk.cut 3 (by simp [St.cutOK, AObj.upto, V.upto, V.uptoL, cellsI_uptoL, List.all_cons, List.all_nil, List.filter_cons, List.filter_nil, Nat.blt_eq, Nat.reduceLT, Nat.lt_irrefl, decide_true, decide_false, Bool.and_self, Bool.and_true, Bool.true_and, if_true, if_false, ↓reduceIte, Bool.false_eq_true, encSg, encW, cellsI_uptoL]), i + 1, by omega, by rw [w64 (x := (i : Int) + 1) (by omega)]; rfl⟩
      ·
       skip
       (first | (exfalso; omega) | (exfalso; simp_all; done) | skip)
       all_goals
        have hil : i = 2 := by omega
        subst hil
        refine tr_exit ?_
        simp only [thenE, inBlkE, Nat.reduceEqDiff, ↓reduceIte]
        refine hK13 _ ?_
        refine tr_seq fun K41 hK41 => ?_
        refine tr_region [14] rfl rfl fun K hK => ?_
        iterate 2 refine evR_p ?_
        refine evR_e hK ?_; clear hK K
        refine hK41 _ ?_
        refine tr_ret ?_
        (try simp only [thenE, inBlkE])
        simp (maxSteps := 4000000) (disch := first | assumption | omega | (simp only [go_sem, *]; done) | (simp only [go_sem, *]; omega)) only [postA, postO, resV1, fzAll, go_sem, hq, Int.reduceToNat, Nat.reduceBEq, Nat.reduceEqDiff, Nat.reduceAdd, Nat.reduceMul, Nat.reduceLeDiff, Nat.reduceLT, Nat.reduceSub, ↓reduceIte, reduceCtorEq]
        all_goals (rfl)
end

end Go.Proofs.Ytfamkbofdamkkaa
