import Derived.Test.YtfamkbofdamkkaaKTb
import Derived.Test.YtfamkbofdamkkaaKTc
import Derived.Test.YtfamkbofdamkkaaKTe
import Derived.Test.YtfamkbofdamkkaaKTd
namespace Go.Proofs.Ytfamkbofdamkkaa
open Go.RowKit
set_option linter.unusedVariables false
set_option linter.unusedSimpArgs false
set_option maxRecDepth 100000
attribute [local go_sem] Nat.zero_add Nat.add_zero Nat.mul_one eq_self ne_eq not_true_eq_false not_false_eq_true decide_true decide_false decide_not Bool.false_eq_true List.filter_cons List.filter_nil true_and and_true beq_false beq_true Bool.not_true Bool.not_false Bool.and_true Bool.true_and Option.getD_some Option.getD_none imp_self implies_true Int.toNat_natCast List.cons_append List.nil_append List.map_cons List.map_nil List.length_cons List.length_nil List.getD_cons_zero List.getD_cons_succ List.drop_zero List.drop_succ_cons List.take_succ_cons List.take_zero
attribute [local go_sem] shL isSh Option.isNone_none Option.isNone_some Option.isSome_none lowN lowQ lowM isAl appOwn unw appF isE isO stpO notIn St.bare evO evDO isEff stp St.get St.slot St.put List.lookup un unL ofVal gof nth pickV pkB_false pkB_true binV unV loadV idxV fldV partV buildV fillV lenV sliV appV appR rowsV winV V.parts V.okp V.sc Mem.look_cons Mem.look_nil V.cl V.clL AObj.clo fzAll exps St.fz Mem.fz V.fz V.fzL AObj.fz Option.isSome_some Option.isSome_none Bool.or_true Bool.true_or Bool.or_false Bool.false_or false_and and_false false_or or_false arT_104 arT_121 arT_160 arT_161 arT_22 arT_23 arT_24 arT_25 arT_28 arT_29 arT_30 arT_40 arT_42 arT_52 arT_60 arT_65 arT_72 arT_73 arT_76 arT_9 arT_90 boolT_182 boolT_25 boolT_3 boolT_35 boolT_4 boolT_76 flatT_182 flatT_25 flatT_3 flatT_35 flatT_4 flatT_76 intT_133 intT_169 intT_171 intT_188 intT_3 intT_5 lay_104 lay_112 lay_138 lay_141 lay_153 lay_160 lay_161 lay_164 lay_188 lay_23 lay_24 lay_25 lay_27 lay_28 lay_3 lay_30 lay_34 lay_4 lay_49 lay_52 lay_54 lay_56 lay_65 lay_67 lay_73 lay_76 lay_90 lay_99 mapT_112 okF_10 okF_100 okF_101 okF_102 okF_103 okF_104 okF_105 okF_106 okF_107 okF_108 okF_109 okF_11 okF_110 okF_111 okF_112 okF_113 okF_114 okF_115 okF_116 okF_117 okF_118 okF_119 okF_12 okF_120 okF_121 okF_122 okF_123 okF_124 okF_125 okF_126 okF_127 okF_128 okF_129 okF_13 okF_130 okF_131 okF_132 okF_133 okF_134 okF_135 okF_136 okF_137 okF_138 okF_139 okF_14 okF_140 okF_141 okF_142 okF_143 okF_144 okF_145 okF_146 okF_147 okF_148 okF_149 okF_15 okF_150 okF_151 okF_152 okF_153 okF_154 okF_155 okF_156 okF_157 okF_158 okF_159 okF_16 okF_160 okF_161 okF_162 okF_163 okF_164 okF_165 okF_166 okF_167 okF_168 okF_169 okF_17 okF_170 okF_171 okF_172 okF_173 okF_174 okF_175 okF_176 okF_177 okF_18 okF_19 okF_20 okF_21 okF_22 okF_23 okF_24 okF_25 okF_26 okF_27 okF_28 okF_29 okF_3 okF_30 okF_31 okF_32 okF_33 okF_34 okF_35 okF_36 okF_37 okF_38 okF_39 okF_4 okF_40 okF_41 okF_42 okF_43 okF_44 okF_45 okF_46 okF_47 okF_48 okF_49 okF_5 okF_50 okF_51 okF_52 okF_53 okF_54 okF_55 okF_56 okF_57 okF_58 okF_59 okF_6 okF_60 okF_61 okF_62 okF_63 okF_64 okF_65 okF_66 okF_67 okF_68 okF_69 okF_7 okF_70 okF_71 okF_72 okF_73 okF_74 okF_75 okF_76 okF_77 okF_78 okF_79 okF_8 okF_80 okF_81 okF_82 okF_83 okF_84 okF_85 okF_86 okF_87 okF_88 okF_89 okF_9 okF_90 okF_91 okF_92 okF_93 okF_94 okF_95 okF_96 okF_97 okF_98 okF_99 plT_138 plT_153 plT_157 plT_161 plT_27 plT_34 plT_54 plT_56 plT_67 plT_76 plT_90 plT_99 slT_104 slT_121 slT_160 slT_161 slT_22 slT_23 slT_24 slT_25 slT_28 slT_29 slT_30 slT_40 slT_42 slT_52 slT_60 slT_65 slT_72 slT_73 slT_76 slT_90 stT_138_0 stT_138_1 stT_153_0 stT_157_0 stT_157_1 stT_157_2 stT_157_3 stT_27_0 stT_27_1 stT_27_2 stT_34_0 stT_34_1 stT_34_2 stT_34_3 stT_54_0 stT_54_1 stT_54_2 stT_54_3 stT_56_0 stT_56_1 stT_67_1 stT_67_4 stT_67_5 stT_99_0 stT_99_1 strT_160 strT_76 strT_9 zeroT_112 zeroT_138 zeroT_153 zeroT_157 zeroT_160 zeroT_161 zeroT_188 zeroT_27 zeroT_3 zeroT_30 zeroT_34 zeroT_4 zeroT_49 zeroT_54 zeroT_56 zeroT_65 zeroT_67 zeroT_76 zeroT_90 zeroT_99
attribute [local go_sem] List.getElem?_cons_zero List.getElem?_cons_succ List.zip_cons_cons List.zip_nil_left List.zip_nil_right Bool.false_and Bool.and_false List.length_append List.length_set List.length_replicate List.all_cons List.all_nil encI_length encI_getD encR_length encR_getD encRw encPg spl shp AObj.shp rowM isSt isRpS isRd csh AObj.csh forall_const imp_self
attribute [local go_sem] encSg encW encSgs_length encWs_length encSgs_getD encWs_getD lookV lkM putM
attribute [local simp] encI_length encR_length cellsI_length encSgs_length encWs_length
section
attribute [local go_sem] encSol2 cellsI_fzL List.replicate_zero encT_length cellsI_length cellsI_getD cellsI_sc cellsI_cl cellsI_winT cellsI_take List.nil_append List.replicate_succ List.set_cons_zero List.set_cons_succ
set_option maxHeartbeats 16000000 in
theorem k8 (a : Int) (x : List T3) (g : List Int) (ha : okI a) (hxl : x.length ≤ maxLen) (hx : ∀ t ∈ x, okT t) (hgl : g.length = 8) (hg : ∀ c ∈ g, okI c) (f : T3) (hf : okT f) : CallsA Try.prog 8 [.int .i64 a, .sl 3 (encT x), .agg (cellsI g), .agg [.int .i64 f.p, .int .i64 f.q, .int .i64 f.r]] (.bool true) := by
 obtain ⟨M, hM⟩ : ∃ M, madeW a x g = M := ⟨_, rfl⟩
 have hv : validB M = true := hM ▸ made_valid ha hx hg
 have hr8 : M.rows.length ≤ 8 := hM ▸ made_rows a x g
 have hc11 := c11 a x g ha hxl hgl
 rw [hM] at hc11
 obtain ⟨q0, q1, q2, q3, q4, q5⟩ := validB_all hv
 have hpM := okPr_valid hv
 have hfM := okPf_prf hv
 have hc11b := c11 a [f] g ha (by simp [maxLen]) hgl
 have hve : validB (madeW a [f] g) = true := made_valid ha (by intro t ht; rw [List.mem_singleton] at ht; subst ht; exact hf) hg
 obtain ⟨hE1, hE2⟩ := made_one (v := a) (t := f) (g := g)
 have hE3 : M.vars = pickW a 9 := hM ▸ rfl
 have hsm := fun r (hr : r ∈ (madeW a [f] g).rows) => made_row (v := a) (g := g) (x := [f]) (by intro t ht; rw [List.mem_singleton] at ht; subst ht; exact hf) hr
 obtain ⟨E, hE⟩ : ∃ E, madeW a [f] g = E := ⟨_, rfl⟩
 rw [hE] at hc11b hve hE1 hE2 hsm
 obtain ⟨er, her⟩ : ∃ er, E.rows.getD 0 rw0 = er := ⟨_, rfl⟩
 have hmem : er ∈ E.rows := her ▸ getD_mem (by omega)
 have hre : rightB er M.vars = true := by rw [hE3, ← hE2]; exact valid_right hve hmem
 have hms := hsm er hmem
 obtain ⟨vn, hvn, hv12, -⟩ := vars_pow hv
 have herl : er.coef.length = vn := by
  have := (validB_all hve).2.2.2.2.2 er hmem
  omega
 have hvP : validB (usP M er) = true := us_valid hv hre (by omega) hr8
 have hFd : (solveW (usP M er)).found = false := us_solve hv hre
 have hRf : refutesW (usP M er) (prfS (usP M er)) = true := prf_refutes hvP hFd
 have hrfS : refutesW (usP M er) (shortS (usP M er).rows.length) = true := us_short hvP hre
 have hEr : encR M.rows ++ [[.int .i64 er.kind, .int .i64 er.a, .int .i64 er.b, .int .i64 er.pl, .sl 1 (encI er.coef), .int .i64 er.most], [.int .i64 0, .int .i64 0, .int .i64 0, .int .i64 0, .sl 1 (encI (negG er.coef vn)), .int .i64 (IntKind.i64.wrap (IntKind.i64.wrap (0 - er.most) - 1))]] = encR (usP M er).rows := by
  have e : M.vars.toNat = vn := by omega
  simp [usP, moresP, encR, encRw, agR, e]
 have ePv : (usP M er).vars = M.vars := rfl
 have ePg : (usP M er).gain = M.gain := rfl
 have hPl : (usP M er).rows.length = M.rows.length + 2 := by simp [usP, moresP]
 have hnone := used_none hRf
 obtain ⟨huL, huR0⟩ := used_len hRf
 obtain ⟨P, hP⟩ : ∃ P, usP M er = P := ⟨_, rfl⟩
 rw [hP] at hvP hFd hRf hrfS hEr ePv ePg hPl hnone huL huR0
 have hpP := okPr_valid hvP
 have hfP := okPf_prf hvP
 have hfS : okPf (shortS P.rows.length) := ⟨by simp [shortS, maxLen], by simp [shortS, lf, maxLen]⟩
 have hwv := wthV_t (used_out hvP (usedI P (prfS P))) hvP
 have hvw := without_valid hvP (offW (usedI P (prfS P)) P.rows.length)
 obtain ⟨w1, w2, w3⟩ := valid_max hvw
 have hol : (offW (usedI P (prfS P)) P.rows.length).length ≤ maxLen := by have := offW_length (usedI P (prfS P)) P.rows.length; unfold maxLen; omega
 have huR : ((withoutW P (offW (usedI P (prfS P)) P.rows.length)).rows.length : Int) = ((usedI P (prfS P)).length : Int) := by rw [huR0]
 have hul := usedI_len P (prfS P)
 have hat := fun n => atW_le (usedI P (prfS P)) n
 have hw1 : IntKind.i64.wrap ((P.rows.length : Int) - 2) = (P.rows.length : Int) - 2 := w64 (by omega)
 have hw2 : IntKind.i64.wrap ((P.rows.length : Int) - 1) = (P.rows.length : Int) - 1 := w64 (by omega)
 have eP : encPg P = [.int .i64 M.vars, .sl 6 (encR P.rows), .sl 1 (encI M.gain)] := by simp [encPg, ePv, ePg]
 have c36 := s36 hvP
 have c24 := s24 hpP hfP
 have c24s := s24 hpP hfS
 have c29 := s29 hpP hfP
 have c37 := c30 P hpP.r hpP.g hpP.c (offW (usedI P (prfS P)) P.rows.length) hol
 rw [hwv] at c37
 rw [eP] at c36 c24 c24s c29 c37
 have hq := And.intro hgl (And.intro her (And.intro hE1 (And.intro hEr (And.intro ePv (And.intro ePg (And.intro hFd (And.intro hRf (And.intro hnone (And.intro hw1 (And.intro hw2 (And.intro huL (And.intro huR (hrfS)))))))))))))
 refine callsA_of_tr Try.func8 rfl (Nat.le_of_ble_eq_true rfl) ?_
 simp only [Try.results8, envOf, Nat.reduceAdd]
 refine tr_seq fun K1 hK1 => ?_
 refine tr_region [0, 1, 6, 7] rfl rfl fun K hK => ?_
 iterate 3 refine evR_p ?_
 refine evR_e hK ?_; clear hK K
 refine hK1 _ ?_
 refine tr_seq fun K2 hK2 => ?_
 refine tr_region [0, 1, 6, 7, 9] rfl rfl fun K hK => ?_
 refine evR_c (hc := k16) (k := ?_)
 refine evR_p ?_
 refine evR_e hK ?_; clear hK K
 refine hK2 _ ?_
 refine tr_seq fun K3 hK3 => ?_
 refine tr_seq fun K4 hK4 => ?_
 refine tr_region [0, 1, 6, 7, 9, 27] rfl rfl fun K hK => ?_
 iterate 2 refine evR_p ?_
 refine evR_e hK ?_; clear hK K
 refine hK4 _ ?_
 refine tr_condB (fun ht1 => ?_) (fun ht1 => ?_)
 ·
  skip
  (first | (exfalso; omega) | (exfalso; simp_all; done) | skip)
  all_goals
   refine tr_seq fun K5 hK5 => ?_
   refine tr_region [8] rfl rfl fun K hK => ?_
   refine evR_p ?_
   refine evR_e hK ?_; clear hK K
   refine hK5 _ ?_
   refine tr_ret ?_
   (try simp only [thenE, inBlkE])
   simp (maxSteps := 4000000) (disch := first | assumption | omega | (simp only [go_sem, *]; done) | (simp only [go_sem, *]; omega)) only [postA, postO, resV1, fzAll, go_sem, hq, Int.reduceToNat, Nat.reduceBEq, Nat.reduceEqDiff, Nat.reduceAdd, Nat.reduceMul, Nat.reduceLeDiff, Nat.reduceLT, Nat.reduceSub, ↓reduceIte, reduceCtorEq]
   all_goals (simp [huL, huR0])
 ·
  skip
  (first | (exfalso; omega) | (exfalso; simp_all; done) | skip)
  all_goals
   refine tr_skip ?_
   (try simp only [thenE, inBlkE])
   refine hK3 _ ?_
   refine tr_seq fun K6 hK6 => ?_
   refine tr_region [0, 6, 7, 9, 10] rfl rfl fun K hK => ?_
   iterate 3 refine evR_p ?_
   refine evR_c (hc := hc11) (k := ?_)
   iterate 2 refine evR_p ?_
   refine evR_e hK ?_; clear hK K
   refine hK6 _ ?_
   refine tr_seq fun K7 hK7 => ?_
   refine tr_region [9, 10, 11] rfl rfl fun K hK => ?_
   iterate 2 refine evR_p ?_
   refine evR_bs ?_
   refine evR_p ?_
   refine evR_c (hc := hc11b) (k := ?_)
   iterate 5 refine evR_p ?_
   refine evR_e hK ?_; clear hK K
   refine hK7 _ ?_
   refine tr_seq fun K8 hK8 => ?_
   refine tr_region [9, 10, 11, 12] rfl rfl fun K hK => ?_
   iterate 7 refine evR_p ?_
   refine evR_e hK ?_; clear hK K
   refine hK8 _ ?_
   refine tr_seq fun K9 hK9 => ?_
   refine tr_seq fun K10 hK10 => ?_
   refine tr_region [9, 10, 11, 12, 13] rfl rfl fun K hK => ?_
   refine evR_p ?_
   refine evR_e hK ?_; clear hK K
   refine hK10 _ ?_
   refine tr_block ?_
   -- loop 1: live [9, 10, 11, 12, 13]
   refine tr_loopW (fun m σ => ∃ i : Nat, i + m = vn ∧ σ = ⟨[(9, .bool true), (10, .ptr 2 0), (11, .ptr 3 0), (12, .ptr 4 0), (13, .int .i64 (i : Nat))], [(5, .row 3 1 (encI (negG er.coef i))), (4, .cells [.int .i64 0, .int .i64 0, .int .i64 0, .int .i64 0, .own 5, .int .i64 (IntKind.i64.wrap (IntKind.i64.wrap (0 - er.most) - 1))]), (3, .cells [.int .i64 er.kind, .int .i64 er.a, .int .i64 er.b, .int .i64 er.pl, .sl 1 (encI er.coef), .int .i64 er.most]), (2, .cells [.int .i64 M.vars, .sl 6 (encR M.rows), .sl 1 (encI M.gain)])], 6⟩) (vn) ?_ ?_
   ·
    exact ⟨_, Wk.trans (Wk.drop (fun k => k != 0 && k != 1)) (Wk.nilown 3 1 4 4 rfl (Nat.le_of_ble_eq_true rfl) rfl), 0, by omega, rfl⟩
   ·
    rintro m σ ⟨i, hi, rfl⟩ KL1 hKL1
    refine tr_seq fun K11 hK11 => ?_
    refine tr_seq fun K12 hK12 => ?_
    refine tr_region [9, 10, 11, 12, 13, 48] rfl rfl fun K hK => ?_
    iterate 4 refine evR_p ?_
    refine evR_e hK ?_; clear hK K
    refine hK12 _ ?_
    refine tr_condB (fun ht2 => ?_) (fun ht2 => ?_)
    ·
     skip
     (first | (exfalso; omega) | (exfalso; simp_all; done) | skip)
     all_goals
      have hil : i < er.coef.length := by omega
      have hnl := negG_length er.coef i
      replace hq := And.intro hq (And.intro hil (hnl))
      refine tr_skip ?_
      (try simp only [thenE, inBlkE])
      refine hK11 _ ?_
      refine tr_seq fun K13 hK13 => ?_
      refine tr_block ?_
      refine tr_draw [59, 3000005] [9, 10, 11, 12, 13] mixed rfl (by kernel_rfl) rfl fun K hK => ?_
      iterate 8 refine evD_p ?_
      refine evD_bs ?_
      iterate 3 refine evD_p ?_
      refine evD_e hK ?_; clear hK K
      refine hK13 _ ?_
      refine tr_region [9, 10, 11, 12, 13] rfl rfl fun K hK => ?_
      iterate 3 refine evR_p ?_
      refine evR_e hK ?_; clear hK K
      refine hKL1 _ ?_
      exact ⟨m - 1, _, by omega, (Wk.trans (Wk.ren 6 5 (Nat.le_of_ble_eq_true rfl) (Nat.le_of_ble_eq_true rfl) rfl) (Wk.cut 6 rfl)), i + 1, by omega, by rw [w64 (x := (i : Int) + 1) (by omega), negG_succ hil, encI_snoc]; rfl⟩
    ·
     skip
     (first | (exfalso; omega) | (exfalso; simp_all; done) | skip)
     all_goals
      have hil : i = vn := by omega
      subst hil
      have hnl := negG_length er.coef i
      refine tr_exit ?_
      simp only [thenE, inBlkE, Nat.reduceEqDiff, ↓reduceIte]
      refine hK9 _ ?_
      refine tr_seq fun K14 hK14 => ?_
      refine tr_fz [.own 5] (by simp (maxSteps := 4000000) (disch := first | assumption | omega | (simp only [go_sem, *]; done) | (simp only [go_sem, *]; omega)) only [go_sem, hq, Int.reduceToNat, Nat.reduceBEq, Nat.reduceEqDiff, Nat.reduceAdd, Nat.reduceMul, Nat.reduceLeDiff, Nat.reduceLT, Nat.reduceSub, ↓reduceIte, reduceCtorEq]; (try rfl)) ?_
      refine tr_draw [68, 3000005] [9, 10] mixed rfl (by kernel_rfl) rfl fun K hK => ?_
      refine evD_bo ?_
      iterate 5 refine evD_p ?_
      refine evD_bs ?_
      iterate 3 refine evD_p ?_
      refine evD_e hK ?_; clear hK K
      refine hK14 _ ?_
      refine tr_seq fun K15 hK15 => ?_
      refine tr_fz [.own 8] (by simp (maxSteps := 4000000) (disch := first | assumption | omega | (simp only [go_sem, *]; done) | (simp only [go_sem, *]; omega)) only [go_sem, hq, Int.reduceToNat, Nat.reduceBEq, Nat.reduceEqDiff, Nat.reduceAdd, Nat.reduceMul, Nat.reduceLeDiff, Nat.reduceLT, Nat.reduceSub, ↓reduceIte, reduceCtorEq]; (try rfl)) ?_
      refine tr_region [9, 10, 14, 15] rfl rfl fun K hK => ?_
      refine evR_p ?_
      refine evR_c (hc := c36) (k := ?_)
      iterate 6 refine evR_p ?_
      refine evR_e hK ?_; clear hK K
      refine hK15 _ ?_
      refine tr_seq fun K16 hK16 => ?_
      refine tr_seq fun K17 hK17 => ?_
      refine tr_region [9, 10, 14, 88] rfl rfl fun K hK => ?_
      iterate 3 refine evR_p ?_
      iterate 2 refine evR_g ?_
      iterate 2 refine evR_p ?_
      iterate 3 refine evR_g ?_
      refine evR_gc (hc := c24) (k := ?_)
      refine evR_g ?_
      refine evR_p ?_
      refine evR_e hK ?_; clear hK K
      refine hK17 _ ?_
      refine tr_condB (fun ht3 => ?_) (fun ht3 => ?_)
      ·
       skip
       (first | (exfalso; omega) | (exfalso; simp_all; done) | skip)
       all_goals
        refine tr_seq fun K18 hK18 => ?_
        refine tr_region [8] rfl rfl fun K hK => ?_
        refine evR_p ?_
        refine evR_e hK ?_; clear hK K
        refine hK18 _ ?_
        refine tr_ret ?_
        (try simp only [thenE, inBlkE])
        simp (maxSteps := 4000000) (disch := first | assumption | omega | (simp only [go_sem, *]; done) | (simp only [go_sem, *]; omega)) only [postA, postO, resV1, fzAll, go_sem, hq, Int.reduceToNat, Nat.reduceBEq, Nat.reduceEqDiff, Nat.reduceAdd, Nat.reduceMul, Nat.reduceLeDiff, Nat.reduceLT, Nat.reduceSub, ↓reduceIte, reduceCtorEq]
        all_goals (simp [huL, huR0])
      ·
       skip
       (first | (exfalso; omega) | (exfalso; simp_all; done) | skip)
       all_goals
        refine tr_skip ?_
        (try simp only [thenE, inBlkE])
        refine hK16 _ ?_
        refine tr_seq fun K19 hK19 => ?_
        refine tr_region [9, 10, 16] rfl rfl fun K hK => ?_
        iterate 3 refine evR_p ?_
        refine evR_c (hc := c29) (k := ?_)
        refine evR_p ?_
        refine evR_e hK ?_; clear hK K
        refine hK19 _ ?_
        refine tr_seq fun K20 hK20 => ?_
        refine tr_region [9, 10, 16, 17] rfl rfl fun K hK => ?_
        refine evR_p ?_
        refine evR_e hK ?_; clear hK K
        refine hK20 _ ?_
        refine tr_seq fun K21 hK21 => ?_
        refine tr_region [9, 10, 16, 17, 18] rfl rfl fun K hK => ?_
        refine evR_p ?_
        refine evR_e hK ?_; clear hK K
        refine hK21 _ ?_
        refine tr_seq fun K22 hK22 => ?_
        refine tr_seq fun K23 hK23 => ?_
        refine tr_region [9, 10, 16, 17, 18, 19] rfl rfl fun K hK => ?_
        refine evR_p ?_
        refine evR_e hK ?_; clear hK K
        refine hK23 _ ?_
        refine tr_block ?_
        -- loop 2: live [9, 10, 16, 17, 18, 19]
        refine tr_loopW (fun m σ => ∃ i : Nat, i + m = P.rows.length ∧ σ = ⟨[(9, .bool true), (10, .ptr 2 0), (16, .sl 1 (encI (usedI P (prfS P)))), (17, .own 10), (18, .int .i64 (atW (usedI P (prfS P)) i : Nat)), (19, .int .i64 (i : Nat))], [(10, .row 3 1 (encI (offW (usedI P (prfS P)) i))), (2, .cells [.int .i64 M.vars, .sl 6 (encR P.rows), .sl 1 (encI M.gain)])], 11⟩) (P.rows.length) ?_ ?_
        ·
         exact ⟨_, Wk.trans (Wk.drop (fun k => k == 2)) (Wk.nilslot 3 1 17 rfl), 0, by omega, rfl⟩
        ·
         rintro m2 σ ⟨i, hi, rfl⟩ KL2 hKL2
         refine tr_seq fun K24 hK24 => ?_
         refine tr_seq fun K25 hK25 => ?_
         refine tr_region [9, 10, 16, 17, 18, 19, 97] rfl rfl fun K hK => ?_
         iterate 5 refine evR_p ?_
         refine evR_e hK ?_; clear hK K
         refine hK25 _ ?_
         refine tr_condB (fun ht4 => ?_) (fun ht4 => ?_)
         ·
          skip
          (first | (exfalso; omega) | (exfalso; simp_all; done) | skip)
          all_goals
           have hil : i < P.rows.length := by omega
           have hof := offW_length (usedI P (prfS P)) i
           have hai := hat i
           replace hq := And.intro hq (hil)
           refine tr_skip ?_
           (try simp only [thenE, inBlkE])
           refine hK24 _ ?_
           refine tr_seq fun K26 hK26 => ?_
           refine tr_block ?_
           refine tr_seq fun K27 hK27 => ?_
           refine tr_region [9, 10, 16, 17, 18, 19, 111] rfl rfl fun K hK => ?_
           iterate 5 refine evR_p ?_
           iterate 6 refine evR_g ?_
           refine evR_p ?_
           refine evR_e hK ?_; clear hK K
           refine hK27 _ ?_
           refine tr_condB (fun ht5 => ?_) (fun ht5 => ?_)
           ·
            skip
            (first | (exfalso; omega) | (exfalso; simp_all; done) | skip)
            all_goals
             refine tr_region [9, 10, 16, 17, 18, 19] rfl rfl fun K hK => ?_
             iterate 3 refine evR_p ?_
             refine evR_e hK ?_; clear hK K
             refine hK26 _ ?_
             refine tr_region [9, 10, 16, 17, 18, 19] rfl rfl fun K hK => ?_
             iterate 3 refine evR_p ?_
             refine evR_e hK ?_; clear hK K
             refine hKL2 _ ?_
             first
              | exact ⟨m2 - 1, _, by omega, Wk.refl _, i + 1, by omega, by rw [w64 (x := (i : Int) + 1) (by omega), (atW_t (rows := (usedI P (prfS P))) (n := i) (by omega) P).1, offW_t (rows := (usedI P (prfS P))) (n := i) (by omega), w64 (by omega)]; rfl⟩
              | exact ⟨m2 - 1, _, by omega, (Wk.trans (Wk.ren 11 10 (Nat.le_of_ble_eq_true rfl) (Nat.le_of_ble_eq_true rfl) rfl) (Wk.cut 11 rfl)), i + 1, by omega, by rw [w64 (x := (i : Int) + 1) (by omega), (atW_f (rows := (usedI P (prfS P))) (n := i) (by omega) P).1, offW_f (rows := (usedI P (prfS P))) (n := i) (by omega), encI_snoc]; rfl⟩
           ·
            skip
            (first | (exfalso; omega) | (exfalso; simp_all; done) | skip)
            all_goals
             refine tr_region [9, 10, 16, 17, 18, 19] rfl rfl fun K hK => ?_
             iterate 2 refine evR_p ?_
             refine evR_bs ?_
             iterate 2 refine evR_p ?_
             refine evR_e hK ?_; clear hK K
             refine hK26 _ ?_
             refine tr_region [9, 10, 16, 17, 18, 19] rfl rfl fun K hK => ?_
             iterate 3 refine evR_p ?_
             refine evR_e hK ?_; clear hK K
             refine hKL2 _ ?_
             first
              | exact ⟨m2 - 1, _, by omega, Wk.refl _, i + 1, by omega, by rw [w64 (x := (i : Int) + 1) (by omega), (atW_t (rows := (usedI P (prfS P))) (n := i) (by omega) P).1, offW_t (rows := (usedI P (prfS P))) (n := i) (by omega), w64 (by omega)]; rfl⟩
              | exact ⟨m2 - 1, _, by omega, (Wk.trans (Wk.ren 11 10 (Nat.le_of_ble_eq_true rfl) (Nat.le_of_ble_eq_true rfl) rfl) (Wk.cut 11 rfl)), i + 1, by omega, by rw [w64 (x := (i : Int) + 1) (by omega), (atW_f (rows := (usedI P (prfS P))) (n := i) (by omega) P).1, offW_f (rows := (usedI P (prfS P))) (n := i) (by omega), encI_snoc]; rfl⟩
         ·
          skip
          (first | (exfalso; omega) | (exfalso; simp_all; done) | skip)
          all_goals
           have hil : i = P.rows.length := by omega
           subst hil
           refine tr_exit ?_
           simp only [thenE, inBlkE, Nat.reduceEqDiff, ↓reduceIte]
           refine hK22 _ ?_
           refine tr_seq fun K28 hK28 => ?_
           refine tr_region [9, 10, 16, 18, 20, 21] rfl rfl fun K hK => ?_
           iterate 2 refine evR_p ?_
           refine evR_c (hc := c37) (k := ?_)
           iterate 6 refine evR_p ?_
           refine evR_e hK ?_; clear hK K
           refine hK28 _ ?_
           refine tr_seq fun K29 hK29 => ?_
           refine tr_region [9, 10, 16, 18, 20, 21, 22, 23] rfl rfl fun K hK => ?_
           refine evR_p ?_
           refine evR_c (hc := (c16 (withoutW P (offW (usedI P (prfS P)) P.rows.length)) w1 w2 w3 hvw)) (k := ?_)
           iterate 5 refine evR_p ?_
           refine evR_e hK ?_; clear hK K
           refine hK29 _ ?_
           refine tr_seq fun K30 hK30 => ?_
           refine tr_region [9, 10, 16, 18, 20, 21, 22, 23, 24] rfl rfl fun K hK => ?_
           iterate 10 refine evR_p ?_
           refine evR_bs ?_
           refine evR_c (hc := (k38 [⟨(P.rows.length : Int) - 2, 1⟩, ⟨(P.rows.length : Int) - 1, 1⟩])) (k := ?_)
           refine evR_bs ?_
           refine evR_p ?_
           refine evR_e hK ?_; clear hK K
           refine hK30 _ ?_
           refine tr_seq fun K31 hK31 => ?_
           refine tr_region [8] rfl rfl fun K hK => ?_
           iterate 2 refine evR_p ?_
           iterate 4 refine evR_g ?_
           iterate 2 refine evR_p ?_
           iterate 2 refine evR_g ?_
           iterate 2 refine evR_p ?_
           iterate 2 refine evR_g ?_
           iterate 2 refine evR_p ?_
           iterate 3 refine evR_g ?_
           iterate 2 refine evR_p ?_
           iterate 6 refine evR_g ?_
           iterate 2 refine evR_p ?_
           iterate 2 refine evR_g ?_
           refine evR_gc (hc := c24s) (k := ?_)
           iterate 2 refine evR_p ?_
           refine evR_e hK ?_; clear hK K
           refine hK31 _ ?_
           refine tr_ret ?_
           (try simp only [thenE, inBlkE])
           simp (maxSteps := 4000000) (disch := first | assumption | omega | (simp only [go_sem, *]; done) | (simp only [go_sem, *]; omega)) only [postA, postO, resV1, fzAll, go_sem, hq, Int.reduceToNat, Nat.reduceBEq, Nat.reduceEqDiff, Nat.reduceAdd, Nat.reduceMul, Nat.reduceLeDiff, Nat.reduceLT, Nat.reduceSub, ↓reduceIte, reduceCtorEq]
           all_goals (simp [huL, huR0])
end

end Go.Proofs.Ytfamkbofdamkkaa
