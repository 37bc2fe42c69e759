import Derived.Test.YtfamkbofdamkkaaKUb
import Derived.Test.YtfamkbofdamkkaaKUc
import Derived.Test.YtfamkbofdamkkaaKUe
import Derived.Test.YtfamkbofdamkkaaKUd
namespace Go.Proofs.Ytfamkbofdamkkaa
open Go.RowKit
set_option linter.unusedVariables false
set_option linter.unusedSimpArgs false
set_option maxRecDepth 100000
attribute [local go_sem] Nat.zero_add Nat.add_zero Nat.mul_one eq_self ne_eq not_true_eq_false not_false_eq_true decide_true decide_false decide_not Bool.false_eq_true List.filter_cons List.filter_nil true_and and_true beq_false beq_true Bool.not_true Bool.not_false Bool.and_true Bool.true_and Option.getD_some Option.getD_none imp_self implies_true Int.toNat_natCast List.cons_append List.nil_append List.map_cons List.map_nil List.length_cons List.length_nil List.getD_cons_zero List.getD_cons_succ List.drop_zero List.drop_succ_cons List.take_succ_cons List.take_zero
attribute [local go_sem] shL isSh Option.isNone_none Option.isNone_some Option.isSome_none lowN lowQ lowM isAl appOwn unw appF isE isO stpO notIn St.bare evO evDO isEff stp St.get St.slot St.put List.lookup un unL ofVal gof nth pickV pkB_false pkB_true binV unV loadV idxV fldV partV buildV fillV lenV sliV appV appR rowsV winV V.parts V.okp V.sc Mem.look_cons Mem.look_nil V.cl V.clL AObj.clo fzAll exps St.fz Mem.fz V.fz V.fzL AObj.fz Option.isSome_some Option.isSome_none Bool.or_true Bool.true_or Bool.or_false Bool.false_or false_and and_false false_or or_false arT_104 arT_121 arT_160 arT_161 arT_22 arT_23 arT_24 arT_25 arT_28 arT_29 arT_30 arT_40 arT_42 arT_52 arT_60 arT_65 arT_72 arT_73 arT_76 arT_9 arT_90 boolT_182 boolT_25 boolT_3 boolT_35 boolT_4 boolT_76 flatT_182 flatT_25 flatT_3 flatT_35 flatT_4 flatT_76 intT_133 intT_169 intT_171 intT_188 intT_3 intT_5 lay_104 lay_112 lay_138 lay_141 lay_153 lay_160 lay_161 lay_164 lay_188 lay_23 lay_24 lay_25 lay_27 lay_28 lay_3 lay_30 lay_34 lay_4 lay_49 lay_52 lay_54 lay_56 lay_65 lay_67 lay_73 lay_76 lay_90 lay_99 mapT_112 okF_10 okF_100 okF_101 okF_102 okF_103 okF_104 okF_105 okF_106 okF_107 okF_108 okF_109 okF_11 okF_110 okF_111 okF_112 okF_113 okF_114 okF_115 okF_116 okF_117 okF_118 okF_119 okF_12 okF_120 okF_121 okF_122 okF_123 okF_124 okF_125 okF_126 okF_127 okF_128 okF_129 okF_13 okF_130 okF_131 okF_132 okF_133 okF_134 okF_135 okF_136 okF_137 okF_138 okF_139 okF_14 okF_140 okF_141 okF_142 okF_143 okF_144 okF_145 okF_146 okF_147 okF_148 okF_149 okF_15 okF_150 okF_151 okF_152 okF_153 okF_154 okF_155 okF_156 okF_157 okF_158 okF_159 okF_16 okF_160 okF_161 okF_162 okF_163 okF_164 okF_165 okF_166 okF_167 okF_168 okF_169 okF_17 okF_170 okF_171 okF_172 okF_173 okF_174 okF_175 okF_176 okF_177 okF_18 okF_19 okF_20 okF_21 okF_22 okF_23 okF_24 okF_25 okF_26 okF_27 okF_28 okF_29 okF_3 okF_30 okF_31 okF_32 okF_33 okF_34 okF_35 okF_36 okF_37 okF_38 okF_39 okF_4 okF_40 okF_41 okF_42 okF_43 okF_44 okF_45 okF_46 okF_47 okF_48 okF_49 okF_5 okF_50 okF_51 okF_52 okF_53 okF_54 okF_55 okF_56 okF_57 okF_58 okF_59 okF_6 okF_60 okF_61 okF_62 okF_63 okF_64 okF_65 okF_66 okF_67 okF_68 okF_69 okF_7 okF_70 okF_71 okF_72 okF_73 okF_74 okF_75 okF_76 okF_77 okF_78 okF_79 okF_8 okF_80 okF_81 okF_82 okF_83 okF_84 okF_85 okF_86 okF_87 okF_88 okF_89 okF_9 okF_90 okF_91 okF_92 okF_93 okF_94 okF_95 okF_96 okF_97 okF_98 okF_99 plT_138 plT_153 plT_157 plT_161 plT_27 plT_34 plT_54 plT_56 plT_67 plT_76 plT_90 plT_99 slT_104 slT_121 slT_160 slT_161 slT_22 slT_23 slT_24 slT_25 slT_28 slT_29 slT_30 slT_40 slT_42 slT_52 slT_60 slT_65 slT_72 slT_73 slT_76 slT_90 stT_138_0 stT_138_1 stT_153_0 stT_157_0 stT_157_1 stT_157_2 stT_157_3 stT_27_0 stT_27_1 stT_27_2 stT_34_0 stT_34_1 stT_34_2 stT_34_3 stT_54_0 stT_54_1 stT_54_2 stT_54_3 stT_56_0 stT_56_1 stT_67_1 stT_67_4 stT_67_5 stT_99_0 stT_99_1 strT_160 strT_76 strT_9 zeroT_112 zeroT_138 zeroT_153 zeroT_157 zeroT_160 zeroT_161 zeroT_188 zeroT_27 zeroT_3 zeroT_30 zeroT_34 zeroT_4 zeroT_49 zeroT_54 zeroT_56 zeroT_65 zeroT_67 zeroT_76 zeroT_90 zeroT_99
attribute [local go_sem] List.getElem?_cons_zero List.getElem?_cons_succ List.zip_cons_cons List.zip_nil_left List.zip_nil_right Bool.false_and Bool.and_false List.length_append List.length_set List.length_replicate List.all_cons List.all_nil encI_length encI_getD encR_length encR_getD encRw encPg spl shp AObj.shp rowM isSt isRpS isRd csh AObj.csh forall_const imp_self
attribute [local go_sem] encSg encW encSgs_length encWs_length encSgs_getD encWs_getD lookV lkM putM
attribute [local simp] encI_length encR_length cellsI_length encSgs_length encWs_length
section
attribute [local go_sem] encSol2 cellsI_fzL List.replicate_zero encT_length cellsI_length cellsI_getD cellsI_sc cellsI_cl cellsI_winT cellsI_take encSgs_fz encSgs_cl encSgs_row encSgs_set encSgs_app1 cellsI_length cellsI_getD cellsI_dropD List.set_set List.nil_append List.replicate_succ List.set_cons_zero List.set_cons_succ cellsI_winT cellsI_take cellsI_fzL encSg List.map_set encSgs_length
set_option maxHeartbeats 32000000 in
theorem k4 (a : Int) (x : List T3) (g : List Int) (ha : okI a) (hxl : x.length ≤ maxLen) (hx : ∀ t ∈ x, okT t) (hgl : g.length = 8) (hg : ∀ c ∈ g, okI c) (z : List Int) (hz4 : z.length = 4) (hz : ∀ x ∈ z, okI x) (wh bb : Int) (hwh : okI wh) (hbb : okI bb) (ex : Sg) (hex : ex.ws.length ≤ maxLen) : CallsA Try.prog 4 [.int .i64 a, .sl 3 (encT x), .agg (cellsI g), .agg (cellsI z), .int .i64 wh, .int .i64 bb, .agg (encSg ex)] (.bool true) := by
 obtain ⟨M, hM⟩ : ∃ M, madeW a x g = M := ⟨_, rfl⟩
 have hv : validB M = true := hM ▸ made_valid ha hx hg
 have hr8 : M.rows.length ≤ 8 := hM ▸ made_rows a x g
 have hc11 := c11 a x g ha hxl hgl
 rw [hM] at hc11
 obtain ⟨q0, q1, q2, q3, q4, q5⟩ := validB_all hv
 have hpM := okPr_valid hv
 have hfM := okPf_prf hv
 have hpl := prf_len hv
 have hp1 : (prfS M).length ≤ 100000 := by omega
 have hp2 : ∀ s ∈ prfS M, s.ws.length ≤ 100000 := fun s hs => by have := prf_ws M s hs; omega
 obtain ⟨L, hL⟩ : ∃ L, bentW (prfS M) z = L := ⟨_, rfl⟩
 have hL0 : 0 < L.length := hL ▸ bentW_pos hz hpl.1 (by omega)
 have hL8 : L.length ≤ 8191 := by have := hL ▸ bentW_len (l := prfS M) (z := z); omega
 have hLw : ∀ s ∈ L, s.ws.length ≤ 1001 := hL ▸ bentW_ws (prf_ws M)
 have hLs : ∀ s ∈ L, smallS s := hL ▸ bentW_small hz (prf_small M)
 obtain ⟨kn, hkn, hkl⟩ : ∃ k : Nat, pickW wh (L.length : Nat) = k ∧ k < L.length := by
  have := pickW_rangeL wh (n := (L.length : Nat)) (by omega) hwh
  exact ⟨(pickW wh (L.length : Nat)).toNat, by omega, by omega⟩
 have hcp := c12 wh (L.length : Nat) (by omega)
 obtain ⟨s, hs⟩ : ∃ s, L.getD kn sg0 = s := ⟨_, rfl⟩
 have hsm : smallS s := hs ▸ hLs _ (getD_mem hkl)
 have hsw : s.ws.length ≤ 1001 := hs ▸ hLw _ (getD_mem hkl)
 have hNr := pickW_rangeL bb (n := 100) (by decide) hbb
 obtain ⟨N, hN⟩ : ∃ N, 1 + pickW bb 100 = N := ⟨_, rfl⟩
 have hN1 : 1 ≤ N ∧ N ≤ 100 := by omega
 have hwN : IntKind.i64.wrap (1 + pickW bb 100) = N := by rw [w64 (by omega)]; exact hN
 have hgr : L.set kn ⟨s.var, s.no, s.yes, mulT N s.ws s.ws.length⟩ = greatW L kn N := by unfold greatW; rw [mulT_all, hs]
 have hfL : okPf L := ⟨by unfold maxLen; omega, fun s hs => by have := hLw s hs; unfold maxLen; omega⟩
 have hfG : okPf (greatW L kn N) := ⟨by simp only [greatW, List.length_set]; unfold maxLen; omega, fun t ht => by
  rcases List.mem_or_eq_of_mem_set ht with ht | ht
  ·
   have := hLw t ht; unfold maxLen; omega
  ·
   rw [ht]; simp only [mulW_len, hs]; unfold maxLen; omega⟩
 have hfX : okPf (L ++ [ex]) := ⟨by simp only [List.length_append, List.length_cons, List.length_nil]; unfold maxLen; omega, fun t ht => by
  rcases List.mem_append.1 ht with ht | ht
  ·
   have := hLw t ht; unfold maxLen; omega
  ·
   rw [List.mem_singleton] at ht; rw [ht]; exact hex⟩
 have hq := And.intro hgl (And.intro hL (And.intro hz4 (And.intro hkn (And.intro hkl (And.intro hs (And.intro hwN (hgr)))))))
 refine callsA_of_tr Try.func4 rfl (Nat.le_of_ble_eq_true rfl) ?_
 simp only [Try.results4, envOf, Nat.reduceAdd]
 refine tr_seq fun K1 hK1 => ?_
 refine tr_region [0, 1, 4, 5, 9, 10, 13] rfl rfl fun K hK => ?_
 iterate 4 refine evR_p ?_
 refine evR_e hK ?_; clear hK K
 refine hK1 _ ?_
 refine tr_seq fun K2 hK2 => ?_
 refine tr_region [0, 1, 4, 5, 9, 10, 13, 15] rfl rfl fun K hK => ?_
 refine evR_c (hc := k16) (k := ?_)
 refine evR_p ?_
 refine evR_e hK ?_; clear hK K
 refine hK2 _ ?_
 refine tr_seq fun K3 hK3 => ?_
 refine tr_seq fun K4 hK4 => ?_
 refine tr_region [0, 1, 4, 5, 9, 10, 13, 15, 32] rfl rfl fun K hK => ?_
 iterate 2 refine evR_p ?_
 refine evR_e hK ?_; clear hK K
 refine hK4 _ ?_
 refine tr_condB (fun ht1 => ?_) (fun ht1 => ?_)
 ·
  skip
  (first | (exfalso; omega) | (exfalso; simp_all; done) | skip)
  all_goals
   refine tr_seq fun K5 hK5 => ?_
   refine tr_region [14] rfl rfl fun K hK => ?_
   refine evR_p ?_
   refine evR_e hK ?_; clear hK K
   refine hK5 _ ?_
   refine tr_ret ?_
   (try simp only [thenE, inBlkE])
   simp (maxSteps := 4000000) (disch := first | assumption | omega | (simp only [go_sem, *]; done) | (simp only [go_sem, *]; omega)) only [postA, postO, resV1, fzAll, go_sem, hq, Int.reduceToNat, Nat.reduceBEq, Nat.reduceEqDiff, Nat.reduceAdd, Nat.reduceMul, Nat.reduceLeDiff, Nat.reduceLT, Nat.reduceSub, ↓reduceIte, reduceCtorEq]
   all_goals (first | (cases hwb : wholeB L L.length with | false => simp [hgR, hgB, refutesW] | true => simp [hgR, hgB, longer_bounds hL0 hL8 hwb, longer_wrong hL0 hL8 hwb, refutesW]))
 ·
  skip
  (first | (exfalso; omega) | (exfalso; simp_all; done) | skip)
  all_goals
   refine tr_skip ?_
   (try simp only [thenE, inBlkE])
   refine hK3 _ ?_
   refine tr_seq fun K6 hK6 => ?_
   refine tr_region [4, 5, 10, 13, 15, 16] rfl rfl fun K hK => ?_
   iterate 3 refine evR_p ?_
   refine evR_c (hc := hc11) (k := ?_)
   iterate 2 refine evR_p ?_
   refine evR_e hK ?_; clear hK K
   refine hK6 _ ?_
   refine tr_seq fun K7 hK7 => ?_
   refine tr_region [4, 5, 10, 13, 15, 16, 17, 18] rfl rfl fun K hK => ?_
   refine evR_p ?_
   refine evR_c (hc := (s18 hv)) (k := ?_)
   iterate 6 refine evR_p ?_
   refine evR_e hK ?_; clear hK K
   refine hK7 _ ?_
   refine tr_seq fun K8 hK8 => ?_
   refine tr_seq fun K9 hK9 => ?_
   refine tr_region [4, 5, 10, 13, 15, 16, 17, 43] rfl rfl fun K hK => ?_
   iterate 2 refine evR_p ?_
   refine evR_e hK ?_; clear hK K
   refine hK9 _ ?_
   refine tr_condB (fun ht2 => ?_) (fun ht2 => ?_)
   ·
    skip
    (first | (exfalso; omega) | (exfalso; simp_all; done) | skip)
    all_goals
     refine tr_seq fun K10 hK10 => ?_
     refine tr_region [14] rfl rfl fun K hK => ?_
     refine evR_p ?_
     refine evR_e hK ?_; clear hK K
     refine hK10 _ ?_
     refine tr_ret ?_
     (try simp only [thenE, inBlkE])
     simp (maxSteps := 4000000) (disch := first | assumption | omega | (simp only [go_sem, *]; done) | (simp only [go_sem, *]; omega)) only [postA, postO, resV1, fzAll, go_sem, hq, Int.reduceToNat, Nat.reduceBEq, Nat.reduceEqDiff, Nat.reduceAdd, Nat.reduceMul, Nat.reduceLeDiff, Nat.reduceLT, Nat.reduceSub, ↓reduceIte, reduceCtorEq]
     all_goals (first | (cases hwb : wholeB L L.length with | false => simp [hgR, hgB, refutesW] | true => simp [hgR, hgB, longer_bounds hL0 hL8 hwb, longer_wrong hL0 hL8 hwb, refutesW]))
   ·
    skip
    (first | (exfalso; omega) | (exfalso; simp_all; done) | skip)
    all_goals
     refine tr_skip ?_
     (try simp only [thenE, inBlkE])
     refine hK8 _ ?_
     refine tr_seq fun K11 hK11 => ?_
     refine tr_region [4, 5, 13, 15, 16, 17, 19] rfl rfl fun K hK => ?_
     iterate 3 refine evR_p ?_
     refine evR_c (hc := (k19 (prfS M) hp1 hp2 z hz4 hz)) (k := ?_)
     refine evR_p ?_
     refine evR_e hK ?_; clear hK K
     refine hK11 _ ?_
     refine tr_seq fun K12 hK12 => ?_
     refine tr_region [5, 13, 15, 16, 17, 19, 20] rfl rfl fun K hK => ?_
     iterate 3 refine evR_p ?_
     refine evR_c (hc := hcp) (k := ?_)
     refine evR_p ?_
     refine evR_e hK ?_; clear hK K
     refine hK12 _ ?_
     refine tr_seq fun K13 hK13 => ?_
     refine tr_region [5, 13, 15, 16, 17, 19, 20, 21] rfl rfl fun K hK => ?_
     refine evR_bo ?_
     iterate 3 refine evR_p ?_
     refine evR_e hK ?_; clear hK K
     refine hK13 _ ?_
     refine tr_seq fun K14 hK14 => ?_
     refine tr_wk (Wk.open (i := 6) rfl) ?_
     try simp only [List.map_cons, List.map_nil, Nat.reduceEqDiff, ↓reduceIte, List.set_cons_zero, List.set_cons_succ, Nat.reduceAdd]
     refine tr_region [5, 13, 15, 16, 17, 19, 20, 21] rfl rfl fun K hK => ?_
     iterate 5 refine evR_p ?_
     refine evR_e hK ?_; clear hK K
     refine hK14 _ ?_
     refine tr_seq fun K15 hK15 => ?_
     refine tr_region [13, 15, 16, 17, 19, 20, 21, 22] rfl rfl fun K hK => ?_
     refine evR_p ?_
     refine evR_c (hc := (c12 bb 100 (by decide))) (k := ?_)
     iterate 2 refine evR_p ?_
     refine evR_e hK ?_; clear hK K
     refine hK15 _ ?_
     refine tr_seq fun K16 hK16 => ?_
     refine tr_seq fun K17 hK17 => ?_
     refine tr_region [13, 15, 16, 17, 19, 20, 21, 22, 23] rfl rfl fun K hK => ?_
     refine evR_p ?_
     refine evR_e hK ?_; clear hK K
     refine hK17 _ ?_
     refine tr_block ?_
     -- loop 1: live [13, 15, 16, 17, 19, 20, 21, 22, 23]
     refine tr_loopW (fun m σ => ∃ i : Nat, i + m = s.ws.length ∧ timesOk N s.ws i ∧ σ = ⟨[(13, .ptr 2 0), (15, .bool true), (16, .ptr 3 0), (17, .ptr 4 0), (19, .sl 4 (encSgs L)), (20, .int .i64 (kn : Nat)), (21, .own 6), (22, .int .i64 N), (23, .int .i64 (i : Nat))], [(7, .row 56 2 (encWs (mulT N s.ws i))), (6, .orow 54 4 ((encSgs L).set kn [.int .i64 s.var, .int .i64 s.no, .int .i64 s.yes, .own 7])), (4, .cells [.bool (solveW M).found, .int .i64 (solveW M).set, .int .i64 (solveW M).gain, .sl 4 (encSgs (prfS M))]), (3, .cells [.int .i64 M.vars, .sl 6 (encR M.rows), .sl 1 (encI M.gain)]), (2, .cells [.int .i64 ex.var, .int .i64 ex.no, .int .i64 ex.yes, .sl 2 (encWs ex.ws)])], 8⟩) (s.ws.length) ?_ ?_
     ·
      exact ⟨_, Wk.trans (Wk.drop (fun k => k != 0 && k != 1)) (Wk.nilrow 56 2 6 kn 3 rfl (by simp [encSgs_length, hkl]) (encSgs_row _ _ _ hkl) (by simp) rfl), 0, by omega, (by intro j hj; omega), by simp only [List.set_set]; rfl⟩
     ·
      rintro m σ ⟨i, hi, htm, rfl⟩ KL1 hKL1
      refine tr_seq fun K18 hK18 => ?_
      refine tr_seq fun K19 hK19 => ?_
      refine tr_region [13, 15, 16, 17, 19, 20, 21, 22, 23, 69] rfl rfl fun K hK => ?_
      iterate 8 refine evR_p ?_
      refine evR_e hK ?_; clear hK K
      refine hK19 _ ?_
      refine tr_condB (fun ht3 => ?_) (fun ht3 => ?_)
      ·
       skip
       (first | (exfalso; omega) | (exfalso; simp_all; done) | skip)
       all_goals
        have hil : i < s.ws.length := by omega
        have hmt := mulT_len N s.ws i
        have hmr := mul_small2 (hsm _ (getD_mem (d := wt0) hil)) hN1
        have hwm : IntKind.i64.wrap ((s.ws.getD i wt0).tm * N) = (s.ws.getD i wt0).tm * N := w64 (by omega)
        replace hq := And.intro hq (And.intro hil (hwm))
        refine tr_skip ?_
        (try simp only [thenE, inBlkE])
        refine hK18 _ ?_
        refine tr_seq fun K20 hK20 => ?_
        refine tr_block ?_
        refine tr_seq fun K21 hK21 => ?_
        refine tr_region [13, 15, 16, 17, 19, 20, 21, 22, 23, 24] rfl rfl fun K hK => ?_
        iterate 10 refine evR_p ?_
        refine evR_e hK ?_; clear hK K
        refine hK21 _ ?_
        refine tr_seq fun K22 hK22 => ?_
        refine tr_seq fun K23 hK23 => ?_
        refine tr_region [13, 15, 16, 17, 19, 20, 21, 22, 23, 24, 89] rfl rfl fun K hK => ?_
        iterate 4 refine evR_p ?_
        iterate 5 refine evR_g ?_
        refine evR_p ?_
        refine evR_e hK ?_; clear hK K
        refine hK23 _ ?_
        refine tr_condB (fun ht4 => ?_) (fun ht4 => ?_)
        ·
         skip
         (first | (exfalso; omega) | (exfalso; simp_all; done) | skip)
         all_goals
          refine tr_seq fun K24 hK24 => ?_
          refine tr_region [14] rfl rfl fun K hK => ?_
          iterate 2 refine evR_p ?_
          refine evR_e hK ?_; clear hK K
          refine hK24 _ ?_
          refine tr_ret ?_
          (try simp only [thenE, inBlkE])
          simp (maxSteps := 4000000) (disch := first | assumption | omega | (simp only [go_sem, *]; done) | (simp only [go_sem, *]; omega)) only [postA, postO, resV1, fzAll, go_sem, hq, Int.reduceToNat, Nat.reduceBEq, Nat.reduceEqDiff, Nat.reduceAdd, Nat.reduceMul, Nat.reduceLeDiff, Nat.reduceLT, Nat.reduceSub, ↓reduceIte, reduceCtorEq]
          all_goals (first | (cases hwb : wholeB L L.length with | false => simp [hgR, hgB, refutesW] | true => simp [hgR, hgB, longer_bounds hL0 hL8 hwb, longer_wrong hL0 hL8 hwb, refutesW]))
        ·
         skip
         (first | (exfalso; omega) | (exfalso; simp_all; done) | skip)
         all_goals
          refine tr_skip ?_
          (try simp only [thenE, inBlkE])
          refine hK22 _ ?_
          refine tr_fz [.ptr 8 0] (by simp (maxSteps := 4000000) (disch := first | assumption | omega | (simp only [go_sem, *]; done) | (simp only [go_sem, *]; omega)) only [go_sem, hq, Int.reduceToNat, Nat.reduceBEq, Nat.reduceEqDiff, Nat.reduceAdd, Nat.reduceMul, Nat.reduceLeDiff, Nat.reduceLT, Nat.reduceSub, ↓reduceIte, reduceCtorEq]; (try rfl)) ?_
          refine tr_draw [105, 3000007, 4000000] [13, 15, 16, 17, 19, 20, 21, 22, 23] mixed rfl (by kernel_rfl) rfl fun K hK => ?_
          iterate 14 refine evD_p ?_
          refine evD_bs ?_
          iterate 4 refine evD_p ?_
          refine evD_e hK ?_; clear hK K
          refine hK20 _ ?_
          refine tr_region [13, 15, 16, 17, 19, 20, 21, 22, 23] rfl rfl fun K hK => ?_
          iterate 3 refine evR_p ?_
          refine evR_e hK ?_; clear hK K
          refine hKL1 _ ?_
          exact ⟨m - 1, _, by omega, (Wk.trans (Wk.ren 9 7 (Nat.le_of_ble_eq_true rfl) (Nat.le_of_ble_eq_true rfl) (by simp [St.noSt, St.ren, St.cutOK, St.cut, AObj.no, AObj.upto, AObj.ren, V.no, V.upto, V.ren, V.noL, V.uptoL, V.renL, cellsI_uptoL, encSg, encW, orow_no, orow_upto, encSgs_ren, List.map_set, hkl, encW])) (Wk.cut 8 (by simp [St.noSt, St.ren, St.cutOK, St.cut, AObj.no, AObj.upto, AObj.ren, V.no, V.upto, V.ren, V.noL, V.uptoL, V.renL, cellsI_uptoL, encSg, encW, orow_no, orow_upto, encSgs_ren, List.map_set, hkl, encW]))), i + 1, by omega, timesOk_step htm ht4, by rw [w64 (x := (i : Int) + 1) (by omega), mulT_succ hil, encWs_snoc]; simp [St.noSt, St.ren, St.cutOK, St.cut, AObj.no, AObj.upto, AObj.ren, V.no, V.upto, V.ren, V.noL, V.uptoL, V.renL, cellsI_uptoL, encSg, encW, orow_no, orow_upto, encSgs_ren, List.map_set, hkl, encW]⟩
      ·
       skip
       (first | (exfalso; omega) | (exfalso; simp_all; done) | skip)
       all_goals
        have hil : i = s.ws.length := by omega
        subst hil
        have hgR : (wrongW M (greatW L kn N) = -1) = (wrongW M L = -1) := propext (decide_eq_decide.1 (great_wrong (p := M) (by omega) hkl (hs.symm ▸ htm)))
        have hgB := great_bounds (p := M) (by omega) hkl (hs.symm ▸ htm) (solveW M).gain
        refine tr_exit ?_
        simp only [thenE, inBlkE, Nat.reduceEqDiff, ↓reduceIte]
        refine hK16 _ ?_
        refine tr_seq fun K25 hK25 => ?_
        refine tr_fz [.own 7, .own 6] (by simp (maxSteps := 4000000) (disch := first | assumption | omega | (simp only [go_sem, *]; done) | (simp only [go_sem, *]; omega)) only [go_sem, hq, Int.reduceToNat, Nat.reduceBEq, Nat.reduceEqDiff, Nat.reduceAdd, Nat.reduceMul, Nat.reduceLeDiff, Nat.reduceLT, Nat.reduceSub, ↓reduceIte, reduceCtorEq]; (try rfl)) ?_
        refine tr_region [13, 15, 16, 17, 19, 21, 25] rfl rfl fun K hK => ?_
        refine evR_p ?_
        refine evR_e hK ?_; clear hK K
        refine hK25 _ ?_
        refine tr_seq fun K26 hK26 => ?_
        refine tr_seq fun K27 hK27 => ?_
        refine tr_region [13, 15, 16, 17, 19, 21, 25, 26] rfl rfl fun K hK => ?_
        refine evR_p ?_
        refine evR_e hK ?_; clear hK K
        refine hK27 _ ?_
        refine tr_block ?_
        -- loop 2: live [13, 15, 16, 17, 19, 21, 25, 26]
        refine tr_loopW (fun m σ => ∃ i : Nat, i + m = L.length ∧ σ = ⟨[(13, .ptr 2 0), (15, .bool true), (16, .ptr 3 0), (17, .ptr 4 0), (19, .sl 4 (encSgs L)), (21, .sl 4 (encSgs (greatW L kn N))), (25, .bool (wholeB L i)), (26, .int .i64 (i : Nat))], [(4, .cells [.bool (solveW M).found, .int .i64 (solveW M).set, .int .i64 (solveW M).gain, .sl 4 (encSgs (prfS M))]), (3, .cells [.int .i64 M.vars, .sl 6 (encR M.rows), .sl 1 (encI M.gain)]), (2, .cells [.int .i64 ex.var, .int .i64 ex.no, .int .i64 ex.yes, .sl 2 (encWs ex.ws)])], 8⟩) (L.length) ?_ ?_
        ·
         exact ⟨_, Wk.refl _, 0, by omega, rfl⟩
        ·
         rintro m2 σ ⟨i2, hi2, rfl⟩ KL2 hKL2
         refine tr_seq fun K28 hK28 => ?_
         refine tr_seq fun K29 hK29 => ?_
         refine tr_region [13, 15, 16, 17, 19, 21, 25, 26, 112] rfl rfl fun K hK => ?_
         iterate 4 refine evR_p ?_
         refine evR_e hK ?_; clear hK K
         refine hK29 _ ?_
         refine tr_condB (fun ht5 => ?_) (fun ht5 => ?_)
         ·
          skip
          (first | (exfalso; omega) | (exfalso; simp_all; done) | skip)
          all_goals
           have hil2 : i2 < L.length := by omega
           replace hq := And.intro hq (hil2)
           refine tr_skip ?_
           (try simp only [thenE, inBlkE])
           refine hK28 _ ?_
           refine tr_seq fun K30 hK30 => ?_
           refine tr_block ?_
           refine tr_region [13, 15, 16, 17, 19, 21, 25, 26] rfl rfl fun K hK => ?_
           iterate 2 refine evR_p ?_
           iterate 8 refine evR_g ?_
           iterate 2 refine evR_p ?_
           iterate 8 refine evR_g ?_
           iterate 2 refine evR_p ?_
           refine evR_e hK ?_; clear hK K
           refine hK30 _ ?_
           refine tr_region [13, 15, 16, 17, 19, 21, 25, 26] rfl rfl fun K hK => ?_
           iterate 3 refine evR_p ?_
           refine evR_e hK ?_; clear hK K
           refine hKL2 _ ?_
           exact ⟨m2 - 1, _, by omega, Wk.refl _, i2 + 1, by omega, by rw [w64 (x := (i2 : Int) + 1) (by omega), wholeB, Bool.and_assoc]; rfl⟩
         ·
          skip
          (first | (exfalso; omega) | (exfalso; simp_all; done) | skip)
          all_goals
           have hil2 : i2 = L.length := by omega
           subst hil2
           refine tr_exit ?_
           simp only [thenE, inBlkE, Nat.reduceEqDiff, ↓reduceIte]
           refine hK26 _ ?_
           refine tr_seq fun K31 hK31 => ?_
           refine tr_draw [140, 3000008] [15, 16, 17, 19, 21, 25, 27] mixed rfl (by kernel_rfl) rfl fun K hK => ?_
           refine evD_bo ?_
           iterate 3 refine evD_p ?_
           refine evD_bs ?_
           iterate 2 refine evD_p ?_
           refine evD_e hK ?_; clear hK K
           refine hK31 _ ?_
           refine tr_seq fun K32 hK32 => ?_
           refine tr_fz [.own 10] (by simp (maxSteps := 4000000) (disch := first | assumption | omega | (simp only [go_sem, *]; done) | (simp only [go_sem, *]; omega)) only [go_sem, hq, Int.reduceToNat, Nat.reduceBEq, Nat.reduceEqDiff, Nat.reduceAdd, Nat.reduceMul, Nat.reduceLeDiff, Nat.reduceLT, Nat.reduceSub, ↓reduceIte, reduceCtorEq]; (try rfl)) ?_
           refine tr_draw [] [15, 16, 17, 19, 25, 27, 28] mixed rfl (by kernel_rfl) rfl fun K hK => ?_
           iterate 4 refine evD_p ?_
           refine evD_c (hc := (s32 hpM hfL _)) (k := ?_)
           iterate 4 refine evD_p ?_
           refine evD_c (hc := (s32 hpM hfG _)) (k := ?_)
           iterate 2 refine evD_p ?_
           iterate 2 refine evD_g ?_
           refine evD_gc (hc := (s24 hpM hfL)) (k := ?_)
           iterate 2 refine evD_g ?_
           refine evD_gc (hc := (s24 hpM hfG)) (k := ?_)
           refine evD_g ?_
           iterate 2 refine evD_p ?_
           refine evD_e hK ?_; clear hK K
           refine hK32 _ ?_
           refine tr_seq fun K33 hK33 => ?_
           refine tr_draw [] [15, 16, 19, 28, 29] mixed rfl (by kernel_rfl) rfl fun K hK => ?_
           iterate 3 refine evD_p ?_
           iterate 4 refine evD_g ?_
           refine evD_gc (hc := (s32 hpM hfL _)) (k := ?_)
           iterate 4 refine evD_g ?_
           refine evD_gc (hc := (s32 hpM hfX _)) (k := ?_)
           iterate 4 refine evD_g ?_
           refine evD_gc (hc := (s26 hpM hfL)) (k := ?_)
           iterate 2 refine evD_g ?_
           refine evD_gc (hc := (s26 hpM hfX)) (k := ?_)
           iterate 2 refine evD_g ?_
           iterate 2 refine evD_p ?_
           refine evD_e hK ?_; clear hK K
           refine hK33 _ ?_
           refine tr_seq fun K34 hK34 => ?_
           refine tr_draw [] [14] mixed rfl (by kernel_rfl) rfl fun K hK => ?_
           iterate 2 refine evD_p ?_
           refine evD_g ?_
           iterate 2 refine evD_p ?_
           refine evD_g ?_
           iterate 2 refine evD_p ?_
           iterate 2 refine evD_g ?_
           refine evD_gc (hc := (s26 hpM hfL)) (k := ?_)
           iterate 3 refine evD_g ?_
           refine evD_gc (hc := (s24 hpM hfL)) (k := ?_)
           refine evD_g ?_
           iterate 2 refine evD_p ?_
           refine evD_e hK ?_; clear hK K
           refine hK34 _ ?_
           refine tr_ret ?_
           (try simp only [thenE, inBlkE])
           simp (maxSteps := 4000000) (disch := first | assumption | omega | (simp only [go_sem, *]; done) | (simp only [go_sem, *]; omega)) only [postA, postO, resV1, fzAll, go_sem, hq, Int.reduceToNat, Nat.reduceBEq, Nat.reduceEqDiff, Nat.reduceAdd, Nat.reduceMul, Nat.reduceLeDiff, Nat.reduceLT, Nat.reduceSub, ↓reduceIte, reduceCtorEq]
           all_goals (first | (cases hwb : wholeB L L.length with | false => simp [hgR, hgB, refutesW] | true => simp [hgR, hgB, longer_bounds hL0 hL8 hwb, longer_wrong hL0 hL8 hwb, refutesW]))
end

end Go.Proofs.Ytfamkbofdamkkaa
